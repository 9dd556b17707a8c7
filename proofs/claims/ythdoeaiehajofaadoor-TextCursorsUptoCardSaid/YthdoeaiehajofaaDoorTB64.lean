/- The program's Base64. -/
import Derived.Test.YthdoeaiehajofaaDoorTHex
import Derived.Test.YthdoeaiehajofaaDoorRU
import Derived.Test.YthdoeaiehajofaaDoorLoose
import Derived.IntWalk
namespace Go.Proofs.YthdoeaiehajofaaDoor
set_option linter.unusedVariables false
set_option maxRecDepth 100000
open Go.RowKit
theorem or_i64 (a b : Nat) (ha : a < 2 ^ 40) (hb : b < 2 ^ 40) : bits .or .i64 (a : Int) (b : Int) = ((a ||| b : Nat) : Int) := by
  show IntKind.i64.wrap ((BitVec.ofInt 64 (a : Int) ||| BitVec.ofInt 64 (b : Int)).toNat : Int) = _
  rw [BitVec.toNat_or, toNat_ofInt_nat 64 a (by omega), toNat_ofInt_nat 64 b (by omega)]
  have h := Nat.or_lt_two_pow ha hb
  exact IntWalk.i64_in _ (by omega)
theorem or16 (x y : Nat) (hx : x < 256) (hy : y < 65536) : bits .or .i64 ((x * 65536 : Nat) : Int) (y : Int) = ((x * 65536 + y : Nat) : Int) := by
  rw [or_i64 _ _ (by omega) (by omega), show x * 65536 = x <<< 16 by rw [Nat.shiftLeft_eq], ← Nat.shiftLeft_add_eq_or_of_lt (by omega)]
theorem ro16 (x y : Nat) (hx : x < 256) (hy : y < 65536) : bits .or .i64 (y : Int) ((x * 65536 : Nat) : Int) = ((x * 65536 + y : Nat) : Int) := by
  rw [or_i64 _ _ (by omega) (by omega), Nat.or_comm, show x * 65536 = x <<< 16 by rw [Nat.shiftLeft_eq], ← Nat.shiftLeft_add_eq_or_of_lt (by omega)]
theorem or8 (x y z : Nat) (hx : x < 256) (hy : y < 256) (hz : z < 256) : bits .or .i64 ((x * 65536 + y * 256 : Nat) : Int) (z : Int) = ((x * 65536 + y * 256 + z : Nat) : Int) := by
  rw [or_i64 _ _ (by omega) (by omega), show x * 65536 + y * 256 = (x * 256 + y) <<< 8 by rw [Nat.shiftLeft_eq]; omega, ← Nat.shiftLeft_add_eq_or_of_lt (by omega)]
theorem and63 (x : Nat) (h : x < 2 ^ 40) : bits .and .i64 (x : Int) 63 = ((x % 64 : Nat) : Int) := by
  show IntKind.i64.wrap ((BitVec.ofInt 64 (x : Int) &&& BitVec.ofInt 64 63).toNat : Int) = _
  rw [BitVec.toNat_and, toNat_ofInt_nat 64 x (by omega), show (BitVec.ofInt 64 63).toNat = 2 ^ 6 - 1 by decide, Nat.and_two_pow_sub_one_eq_mod]
  exact IntWalk.i64_in _ (by omega)
theorem drop3 (l : List Nat) (i : Nat) (h : i + 3 ≤ l.length) : l.drop i = l.getD i 0 :: l.getD (i + 1) 0 :: l.getD (i + 2) 0 :: l.drop (i + 3) := by
  have e : ∀ j, j < l.length → l.drop j = l.getD j 0 :: l.drop (j + 1) := fun j hj => by
    rw [List.drop_eq_getElem_cons hj, List.getD_eq_getElem?_getD, List.getElem?_eq_getElem hj]; rfl
  rw [e i (by omega), e (i + 1) (by omega), e (i + 2) (by omega)]
theorem b64_take (l : List Nat) (i : Nat) (h : 3 * i + 3 ≤ l.length) : C.b64Of (l.take (3 * (i + 1))) = C.b64Of (l.take (3 * i)) ++ [C.lt.getD (l.getD (3 * i) 0 / 4) 0, C.lt.getD (l.getD (3 * i) 0 % 4 * 16 + l.getD (3 * i + 1) 0 / 16) 0, C.lt.getD (l.getD (3 * i + 1) 0 % 16 * 4 + l.getD (3 * i + 2) 0 / 64) 0, C.lt.getD (l.getD (3 * i + 2) 0 % 64) 0] := by
  have e : l.take (3 * (i + 1)) = l.take (3 * i) ++ [l.getD (3 * i) 0, l.getD (3 * i + 1) 0, l.getD (3 * i + 2) 0] := by
    rw [show 3 * (i + 1) = 3 * i + 3 by omega, List.take_add, drop3 l (3 * i) h]; rfl
  rw [e, C.b64Of_three _ _ (by rw [List.length_take]; omega)]; rfl
theorem b64_one (l : List Nat) (i : Nat) (h : l.length = 3 * i + 1) : C.b64Of l = C.b64Of (l.take (3 * i)) ++ [C.lt.getD (l.getD (3 * i) 0 / 4) 0, C.lt.getD (l.getD (3 * i) 0 % 4 * 16) 0] := by
  have e : l = l.take (3 * i) ++ [l.getD (3 * i) 0] := by
    conv => lhs; rw [← List.take_append_drop (3 * i) l]
    congr 1
    rw [List.drop_eq_getElem_cons (by omega), List.drop_eq_nil_of_le (by omega), List.getD_eq_getElem?_getD, List.getElem?_eq_getElem (by omega)]; rfl
  conv => lhs; rw [e]
  rw [C.b64Of_three _ _ (by rw [List.length_take]; omega)]; rfl
theorem b64_two (l : List Nat) (i : Nat) (h : l.length = 3 * i + 2) : C.b64Of l = C.b64Of (l.take (3 * i)) ++ [C.lt.getD (l.getD (3 * i) 0 / 4) 0, C.lt.getD (l.getD (3 * i) 0 % 4 * 16 + l.getD (3 * i + 1) 0 / 16) 0, C.lt.getD (l.getD (3 * i + 1) 0 % 16 * 4) 0] := by
  have e : l = l.take (3 * i) ++ [l.getD (3 * i) 0, l.getD (3 * i + 1) 0] := by
    conv => lhs; rw [← List.take_append_drop (3 * i) l]
    congr 1
    rw [List.drop_eq_getElem_cons (by omega), List.drop_eq_getElem_cons (by omega), List.drop_eq_nil_of_le (by omega), List.getD_eq_getElem?_getD, List.getElem?_eq_getElem (by omega), List.getD_eq_getElem?_getD, List.getElem?_eq_getElem (by omega)]; rfl
  conv => lhs; rw [e]
  rw [C.b64Of_three _ _ (by rw [List.length_take]; omega)]; rfl
theorem lt_lt (d : Nat) : C.lt.getD d 0 < 256 := C.lt_byte d
set_option maxHeartbeats 4000000 in
theorem b64W (s : ByteArray) (w : World) (hs : s.size ≤ 67108864) : Calls Tryd.prog 36 #[.string s] w fun e w' => e = .returned (.string (strOf (C.b64Of (bs s)))) ∧ Below w.heap.size w w' := by
  obtain ⟨b, hb⟩ : ∃ b, b = w.heap.size := ⟨_, rfl⟩
  have HB0 := Lib.hid hb
  go_enter Tryd.func36, Tryd.ntmps36
  go_wp2_with fail
  rw [← hb]
  clear hb
  go_loopw [0] (fun v0 wr => ∃ (i : Nat) (r : ByteArray), 3 * i + r.size = s.size ∧ v0 = .string r ∧ bs r = (bs s).drop (3 * i) ∧ Bld wr w.heap.size b (C.b64Of ((bs s).take (3 * i))) ∧ Below w.heap.size w wr) (fun v0 _ => (match v0 with | .string r => r.size | _ => 0))
  case atStart =>
    refine ⟨0, s, by omega, rfl, by simp, ?_, (Below.refl _ _).alloc (Nat.le_refl _) _⟩
    rw [HB0.out]; exact Bld.new w _ (Nat.le_refl _)
  case round =>
    obtain ⟨i, r, hi, rfl, hr, hbl, hbe⟩ := hrel
    have HL := Lib.hid hbl
    have HE := Lib.hid hbe
    have HR := Lib.hid hr
    have HI := Lib.hid hi
    have hrs : r.size ≤ 67108864 := by omega
    have HLEN : Hid ((C.b64Of ((bs s).take (3 * i))).length ≤ 134217728) := by unfold Hid; rw [C.b64Of_length, List.length_take]; have := HI.out; omega
    clear hbl hbe hr hi
    by_cases h3 : 3 ≤ r.size
    · have b0 : 0 < r.size := by omega
      have b1 : 1 < r.size := by omega
      have b2 : 2 < r.size := by omega
      have bb1 : (1 : Int) < (r.size : Int) := by omega
      have bb2 : (2 : Int) < (r.size : Int) := by omega
      have bb0 : (0 : Int) < (r.size : Int) := by omega
      obtain ⟨x, hx⟩ : ∃ x, r[0].toNat = x := ⟨_, rfl⟩
      obtain ⟨y, hy⟩ : ∃ x, r[1].toNat = x := ⟨_, rfl⟩
      obtain ⟨z, hz⟩ : ∃ x, r[2].toNat = x := ⟨_, rfl⟩
      have bx : x < 256 := by rw [← hx]; exact UInt8.toNat_lt _
      have by' : y < 256 := by rw [← hy]; exact UInt8.toNat_lt _
      have bz : z < 256 := by rw [← hz]; exact UInt8.toNat_lt _
      have HT := Lib.hid (b64_take (bs s) i (by rw [length_bs]; have := HI.out; omega))
      have q0 : (bs s).getD (3 * i) 0 = x := by rw [← hx, get_bs r 0 b0, HR.out, U.getD_drop]; rfl
      have q1 : (bs s).getD (3 * i + 1) 0 = y := by rw [← hy, get_bs r 1 b1, HR.out, U.getD_drop]
      have q2 : (bs s).getD (3 * i + 2) 0 = z := by rw [← hz, get_bs r 2 b2, HR.out, U.getD_drop]
      rw [q0, q1, q2] at HT
      clear q0 q1 q2
      obtain ⟨X1, hX1⟩ : ∃ X, X = x * 65536 := ⟨_, rfl⟩
      obtain ⟨Y1, hY1⟩ : ∃ X, X = y * 256 := ⟨_, rfl⟩
      obtain ⟨P1, hP1⟩ : ∃ X, X = x * 65536 + y * 256 := ⟨_, rfl⟩
      obtain ⟨N, hN⟩ : ∃ X, X = x * 65536 + y * 256 + z := ⟨_, rfl⟩
      have kx : IntKind.i64.wrap (x : Int) = (x : Int) := IntWalk.i64_in _ (by omega)
      have ky : IntKind.i64.wrap (y : Int) = (y : Int) := IntWalk.i64_in _ (by omega)
      have kz : IntKind.i64.wrap (z : Int) = (z : Int) := IntWalk.i64_in _ (by omega)
      have k1 : IntKind.i64.wrap (X1 : Int) = (X1 : Int) := IntWalk.i64_in _ (by omega)
      have k2 : IntKind.i64.wrap (Y1 : Int) = (Y1 : Int) := IntWalk.i64_in _ (by omega)
      have k1' : (x : Int) * 65536 = (X1 : Int) := by omega
      have k2' : (y : Int) * 256 = (Y1 : Int) := by omega
      have k3 : bits .or .i64 (X1 : Int) (Y1 : Int) = (P1 : Int) := by rw [hX1, hY1, hP1]; exact or16 x (y * 256) bx (by omega)
      have k4 : bits .or .i64 (P1 : Int) (z : Int) = (N : Int) := by rw [hP1, hN]; exact or8 x y z bx by' bz
      have hN1 : N < 16777216 := by omega
      have HX0 : Hid (N / 262144 = x / 4 ∧ N / 4096 % 64 = x % 4 * 16 + y / 16 ∧ N / 64 % 64 = y % 16 * 4 + z / 64 ∧ N % 64 = z % 64) := by unfold Hid; omega
      clear hX1 hY1 hP1 hN
      go_wp2_with fail
      refine wp_region_U 13 (fun _ => True) (by kernel_rfl) ?_
      change wpAnyU _ _ _ _ _ _ 14 (Array.replicate 14 false) _ _
      obtain ⟨w2, hw2⟩ : ∃ w2, w2 = wr.drew := ⟨_, rfl⟩
      rw [← hw2]
      have HL2 : Hid (Bld w2 w.heap.size b (C.b64Of ((bs s).take (3 * i)))) := by unfold Hid; rw [hw2]; exact HL.out.below (Below.refl _ _).drew
      have HE2 : Hid (Below w.heap.size w w2) := by unfold Hid; rw [hw2]; exact HE.out.drew
      clear hw2
      refine takeU 0 (v := ?_) rfl (by kernel_rfl) (by kernel_rfl) (fun _ _ _ h => h) rfl (fun u hu => ?_) trivial ?_
      rotate_left
      · skip; go_simp <;> with_reducible rfl
      simp only [Act.put, List.setIfInBounds_toArray, List.set_cons_zero, List.set_cons_succ]
      refine takeU 1 (v := ?_) rfl (by kernel_rfl) (by kernel_rfl) (fun _ _ _ h => h) rfl (fun u hu => ?_) trivial ?_
      rotate_left
      · skip; go_simp <;> with_reducible rfl
      simp only [Act.put, List.setIfInBounds_toArray, List.set_cons_zero, List.set_cons_succ]
      refine takeU 2 (v := ?_) rfl (by kernel_rfl) (by kernel_rfl) (fun _ _ _ h => h) rfl (fun u hu => ?_) trivial ?_
      rotate_left
      · skip; go_simp <;> with_reducible rfl
      simp only [Act.put, List.setIfInBounds_toArray, List.set_cons_zero, List.set_cons_succ]
      refine takeU 3 (v := ?_) rfl (by kernel_rfl) (by kernel_rfl) (fun _ _ _ h => h) rfl (fun u hu => ?_) trivial ?_
      rotate_left
      · skip; go_simp <;> with_reducible rfl
      simp only [Act.put, List.setIfInBounds_toArray, List.set_cons_zero, List.set_cons_succ]
      refine takeU 4 (v := ?_) rfl (by kernel_rfl) (by kernel_rfl) (fun _ _ _ h => h) rfl (fun u hu => ?_) trivial ?_
      rotate_left
      · skip; go_simp <;> with_reducible rfl
      simp only [Act.put, List.setIfInBounds_toArray, List.set_cons_zero, List.set_cons_succ]
      refine takeU 5 (v := ?_) rfl (by kernel_rfl) (by kernel_rfl) (fun _ _ _ h => h) rfl (fun u hu => ?_) trivial ?_
      rotate_left
      · skip; go_simp <;> with_reducible rfl
      simp only [Act.put, List.setIfInBounds_toArray, List.set_cons_zero, List.set_cons_succ]
      refine takeU 6 (v := ?_) rfl (by kernel_rfl) (by kernel_rfl) (fun _ _ _ h => h) rfl (fun u hu => ?_) trivial ?_
      rotate_left
      · skip; go_simp <;> with_reducible rfl
      simp only [Act.put, List.setIfInBounds_toArray, List.set_cons_zero, List.set_cons_succ]
      refine takeU 7 (v := ?_) rfl (by kernel_rfl) (by kernel_rfl) (fun _ _ _ h => h) rfl (fun u hu => ?_) trivial ?_
      rotate_left
      · skip; go_simp <;> with_reducible rfl
      simp only [Act.put, List.setIfInBounds_toArray, List.set_cons_zero, List.set_cons_succ]
      refine takeU 8 (v := ?_) rfl (by kernel_rfl) (by kernel_rfl) (fun _ _ _ h => h) rfl (fun u hu => ?_) trivial ?_
      rotate_left
      · skip; go_simp <;> with_reducible rfl
      simp only [Act.put, List.setIfInBounds_toArray, List.set_cons_zero, List.set_cons_succ]
      refine takeU 9 (v := ?_) rfl (by kernel_rfl) (by kernel_rfl) (fun _ _ _ h => h) rfl (fun u hu => ?_) trivial ?_
      rotate_left
      · skip; go_simp <;> with_reducible rfl
      simp only [Act.put, List.setIfInBounds_toArray, List.set_cons_zero, List.set_cons_succ]
      refine takeU 10 (v := ?_) rfl (by kernel_rfl) (by kernel_rfl) (fun _ _ _ h => h) rfl (fun u hu => ?_) trivial ?_
      rotate_left
      · skip; go_simp <;> with_reducible rfl
      simp only [Act.put, List.setIfInBounds_toArray, List.set_cons_zero, List.set_cons_succ]
      refine takeU 11 (v := ?_) rfl (by kernel_rfl) (by kernel_rfl) (fun _ _ _ h => h) rfl (fun u hu => ?_) trivial ?_
      rotate_left
      · skip; go_simp <;> with_reducible rfl
      simp only [Act.put, List.setIfInBounds_toArray, List.set_cons_zero, List.set_cons_succ]
      refine takeU 12 (v := ?_) rfl (by kernel_rfl) (by kernel_rfl) (fun _ _ _ h => h) rfl (fun u hu => ?_) trivial ?_
      rotate_left
      · skip; go_simp <;> with_reducible rfl
      simp only [Act.put, List.setIfInBounds_toArray, List.set_cons_zero, List.set_cons_succ]
      refine oneU 13 (by kernel_rfl) ?_
      refine endU (v := ?_) 13 rfl (by kernel_rfl) (by kernel_rfl) rfl ?_ ?_
      rotate_left
      · go_simp <;> with_reducible rfl
      simp only [Act.put, List.setIfInBounds_toArray, List.set_cons_zero, List.set_cons_succ]
      clear kx ky kz k1 k2 k1' k2' k3 k4
      obtain ⟨d0, hd0⟩ : ∃ X, X = N / 262144 := ⟨_, rfl⟩
      obtain ⟨q1, hq1⟩ : ∃ X, X = N / 4096 := ⟨_, rfl⟩
      obtain ⟨d1, hd1⟩ : ∃ X, X = q1 % 64 := ⟨_, rfl⟩
      obtain ⟨q2, hq2⟩ : ∃ X, X = N / 64 := ⟨_, rfl⟩
      obtain ⟨d2, hd2⟩ : ∃ X, X = q2 % 64 := ⟨_, rfl⟩
      obtain ⟨d3, hd3⟩ : ∃ X, X = N % 64 := ⟨_, rfl⟩
      have m0 : (N : Int) / 262144 = (d0 : Int) := by omega
      have m1 : (N : Int) / 4096 = (q1 : Int) := by omega
      have m2 : (N : Int) / 64 = (q2 : Int) := by omega
      have n0 : IntKind.i64.wrap (d0 : Int) = (d0 : Int) := IntWalk.i64_in _ (by omega)
      have n1 : IntKind.i64.wrap (q1 : Int) = (q1 : Int) := IntWalk.i64_in _ (by omega)
      have n2 : IntKind.i64.wrap (q2 : Int) = (q2 : Int) := IntWalk.i64_in _ (by omega)
      have a1 : bits .and .i64 (q1 : Int) 63 = (d1 : Int) := by rw [hd1]; exact and63 q1 (by omega)
      have a2 : bits .and .i64 (q2 : Int) 63 = (d2 : Int) := by rw [hd2]; exact and63 q2 (by omega)
      have a3 : bits .and .i64 (N : Int) 63 = (d3 : Int) := by rw [hd3]; exact and63 N (by omega)
      have c1 : (q1 : Int) % 64 = (d1 : Int) := by omega
      have c2 : (q2 : Int) % 64 = (d2 : Int) := by omega
      have c3 : (N : Int) % 64 = (d3 : Int) := by omega
      have j0 := fun w => idxLt .i64 (d0 : Int) d0 rfl (by omega) w
      have j1 := fun w => idxLt .i64 (d1 : Int) d1 rfl (by omega) w
      have j2 := fun w => idxLt .i64 (d2 : Int) d2 rfl (by omega) w
      have j3 := fun w => idxLt .i64 (d3 : Int) d3 rfl (by omega) w
      unfold ltS at j0 j1 j2 j3
      have HD : Hid (d0 = x / 4 ∧ d1 = x % 4 * 16 + y / 16 ∧ d2 = y % 16 * 4 + z / 64 ∧ d3 = z % 64) := by have := HX0.out; unfold Hid; omega
      rw [← HD.out.1, ← HD.out.2.1, ← HD.out.2.2.1, ← HD.out.2.2.2] at HT
      obtain ⟨l0, e0⟩ : ∃ l, C.lt.getD d0 0 = l := ⟨_, rfl⟩
      obtain ⟨l1, e1⟩ : ∃ l, C.lt.getD d1 0 = l := ⟨_, rfl⟩
      obtain ⟨l2, e2⟩ : ∃ l, C.lt.getD d2 0 = l := ⟨_, rfl⟩
      obtain ⟨l3, e3⟩ : ∃ l, C.lt.getD d3 0 = l := ⟨_, rfl⟩
      have HLL : Hid (∀ c ∈ [l0, l1, l2, l3], c < 256) := by
        intro c hc
        simp only [List.mem_cons, List.not_mem_nil, or_false] at hc
        rcases hc with rfl | rfl | rfl | rfl
        · rw [← e0]; exact lt_lt _
        · rw [← e1]; exact lt_lt _
        · rw [← e2]; exact lt_lt _
        · rw [← e3]; exact lt_lt _
      rw [e0] at HT j0
      rw [e1] at HT j1
      rw [e2] at HT j2
      rw [e3] at HT j3
      clear hd0 hq1 hd1 hq2 hd2 hd3 e0 e1 e2 e3
      go_wp2_with fail
      refine wp_region_U 16 (fun _ => True) (by kernel_rfl) ?_
      change wpAnyU _ _ _ _ _ _ 17 (Array.replicate 17 false) _ _
      obtain ⟨w3, hw3⟩ : ∃ w3, w3 = w2.drew := ⟨_, rfl⟩
      rw [← hw3]
      have HL3 : Hid (Bld w3 w.heap.size b (C.b64Of ((bs s).take (3 * i)))) := by unfold Hid; rw [hw3]; exact HL2.out.below (Below.refl _ _).drew
      have HE3 : Hid (Below w.heap.size w w3) := by unfold Hid; rw [hw3]; exact HE2.out.drew
      clear hw3
      refine takeU 0 (v := ?_) rfl (by kernel_rfl) (by kernel_rfl) (fun _ _ _ h => h) rfl (fun u hu => ?_) trivial ?_
      rotate_left
      · skip; go_simp <;> with_reducible rfl
      simp only [Act.put, List.setIfInBounds_toArray, List.set_cons_zero, List.set_cons_succ]
      refine takeU 1 (v := ?_) rfl (by kernel_rfl) (by kernel_rfl) (fun _ _ _ h => h) rfl (fun u hu => ?_) trivial ?_
      rotate_left
      · skip; go_simp <;> with_reducible rfl
      simp only [Act.put, List.setIfInBounds_toArray, List.set_cons_zero, List.set_cons_succ]
      refine takeU 2 (v := ?_) rfl (by kernel_rfl) (by kernel_rfl) (fun _ _ _ h => h) rfl (fun u hu => ?_) trivial ?_
      rotate_left
      · skip; go_simp <;> with_reducible rfl
      simp only [Act.put, List.setIfInBounds_toArray, List.set_cons_zero, List.set_cons_succ]
      refine takeU 3 (v := ?_) rfl (by kernel_rfl) (by kernel_rfl) (fun _ _ _ h => h) rfl (fun u hu => ?_) trivial ?_
      rotate_left
      · skip; go_simp <;> with_reducible rfl
      simp only [Act.put, List.setIfInBounds_toArray, List.set_cons_zero, List.set_cons_succ]
      refine takeU 4 (v := ?_) rfl (by kernel_rfl) (by kernel_rfl) (fun _ _ _ h => h) rfl (fun u hu => ?_) trivial ?_
      rotate_left
      · skip; go_simp <;> with_reducible rfl
      simp only [Act.put, List.setIfInBounds_toArray, List.set_cons_zero, List.set_cons_succ]
      refine takeU 5 (v := ?_) rfl (by kernel_rfl) (by kernel_rfl) (fun _ _ _ h => h) rfl (fun u hu => ?_) trivial ?_
      rotate_left
      · skip; go_simp <;> with_reducible rfl
      simp only [Act.put, List.setIfInBounds_toArray, List.set_cons_zero, List.set_cons_succ]
      refine takeU 6 (v := ?_) rfl (by kernel_rfl) (by kernel_rfl) (fun _ _ _ h => h) rfl (fun u hu => ?_) trivial ?_
      rotate_left
      · skip; go_simp <;> with_reducible rfl
      simp only [Act.put, List.setIfInBounds_toArray, List.set_cons_zero, List.set_cons_succ]
      refine takeU 7 (v := ?_) rfl (by kernel_rfl) (by kernel_rfl) (fun _ _ _ h => h) rfl (fun u hu => ?_) trivial ?_
      rotate_left
      · skip; go_simp <;> with_reducible rfl
      simp only [Act.put, List.setIfInBounds_toArray, List.set_cons_zero, List.set_cons_succ]
      refine takeU 8 (v := ?_) rfl (by kernel_rfl) (by kernel_rfl) (fun _ _ _ h => h) rfl (fun u hu => ?_) trivial ?_
      rotate_left
      · skip; go_simp <;> with_reducible rfl
      simp only [Act.put, List.setIfInBounds_toArray, List.set_cons_zero, List.set_cons_succ]
      refine takeU 9 (v := ?_) rfl (by kernel_rfl) (by kernel_rfl) (fun _ _ _ h => h) rfl (fun u hu => ?_) trivial ?_
      rotate_left
      · skip; go_simp <;> with_reducible rfl
      simp only [Act.put, List.setIfInBounds_toArray, List.set_cons_zero, List.set_cons_succ]
      refine takeU 10 (v := ?_) rfl (by kernel_rfl) (by kernel_rfl) (fun _ _ _ h => h) rfl (fun u hu => ?_) trivial ?_
      rotate_left
      · skip; go_simp <;> with_reducible rfl
      simp only [Act.put, List.setIfInBounds_toArray, List.set_cons_zero, List.set_cons_succ]
      refine takeU 11 (v := ?_) rfl (by kernel_rfl) (by kernel_rfl) (fun _ _ _ h => h) rfl (fun u hu => ?_) trivial ?_
      rotate_left
      · skip; go_simp <;> with_reducible rfl
      simp only [Act.put, List.setIfInBounds_toArray, List.set_cons_zero, List.set_cons_succ]
      refine takeU 12 (v := ?_) rfl (by kernel_rfl) (by kernel_rfl) (fun _ _ _ h => h) rfl (fun u hu => ?_) trivial ?_
      rotate_left
      · skip; go_simp <;> with_reducible rfl
      simp only [Act.put, List.setIfInBounds_toArray, List.set_cons_zero, List.set_cons_succ]
      refine takeU 13 (v := ?_) rfl (by kernel_rfl) (by kernel_rfl) (fun _ _ _ h => h) rfl (fun u hu => ?_) trivial ?_
      rotate_left
      · skip; go_simp <;> with_reducible rfl
      simp only [Act.put, List.setIfInBounds_toArray, List.set_cons_zero, List.set_cons_succ]
      refine oneU 14 (by kernel_rfl) ?_
      refine someU 14 rfl (by kernel_rfl) ?_
      refine step_run rfl (.slice (some ⟨w3.heap.size, 0, none⟩) 4 4) (w3.alloc (.cells #[.int .u8 (l0 : Int), .int .u8 (l1 : Int), .int .u8 (l2 : Int), .int .u8 (l3 : Int)] 5)) (by go_simp) ?_
      refine ⟨trivial, ?_⟩
      simp only [Act.put, List.setIfInBounds_toArray, List.set_cons_zero, List.set_cons_succ]
      have HL4 : Hid (Bld (w3.alloc (.cells #[.int .u8 (l0 : Int), .int .u8 (l1 : Int), .int .u8 (l2 : Int), .int .u8 (l3 : Int)] 5)) w.heap.size b (C.b64Of ((bs s).take (3 * i)))) := HL3.out.below ((Below.refl _ _).alloc (Nat.le_refl _) (.cells #[.int .u8 (l0 : Int), .int .u8 (l1 : Int), .int .u8 (l2 : Int), .int .u8 (l3 : Int)] 5))
      have HE4 : Hid (Below w.heap.size w (w3.alloc (.cells #[.int .u8 (l0 : Int), .int .u8 (l1 : Int), .int .u8 (l2 : Int), .int .u8 (l3 : Int)] 5))) := HE3.out.alloc HE3.out.size (.cells #[.int .u8 (l0 : Int), .int .u8 (l1 : Int), .int .u8 (l2 : Int), .int .u8 (l3 : Int)] 5)
      have HO4 : Hid (Owns (w3.alloc (.cells #[.int .u8 (l0 : Int), .int .u8 (l1 : Int), .int .u8 (l2 : Int), .int .u8 (l3 : Int)] 5)) w3.heap.size 5 (.slice (some ⟨w3.heap.size, 0, none⟩) 4 4) [l0, l1, l2, l3]) := Owns.lit (l := [l0, l1, l2, l3]) w3 _ (Nat.le_refl _) (by simp [nums]) (by show 4 ≤ maxLen; decide)
      obtain ⟨w4, hw4⟩ : ∃ w4, w4 = w3.alloc (.cells #[.int .u8 (l0 : Int), .int .u8 (l1 : Int), .int .u8 (l2 : Int), .int .u8 (l3 : Int)] 5) := ⟨_, rfl⟩
      rw [← hw4] at HL4 HE4 HO4 ⊢
      clear hw4 HL3 HE3
      have hcv := run_owned_string (P := Tryd.prog) w4 36 9 Tryd.underlying36 Tryd.underlying5 Tryd.underlying9 HO4.out
      refine oneU 15 (by kernel_rfl) ?_
      refine someU 15 rfl (by kernel_rfl) ?_
      refine step_run rfl (.string (strOf [l0, l1, l2, l3])) w4 (by unfold execOp; simp [Act.eval, Result.andThen, hcv]) ?_
      clear hcv
      refine ⟨trivial, ?_⟩
      simp only [Act.put, List.setIfInBounds_toArray, List.set_cons_zero, List.set_cons_succ]
      refine oneU 16 (by kernel_rfl) ?_
      refine lastU 16 rfl (by kernel_rfl) (by kernel_rfl) ?_
      have hcall := writeStringW w4 (strOf [l0, l1, l2, l3]) HL4.out (by rw [size_strOf]; have := HLEN.out; simp; omega) HE4.out.size
      rw [bs_strOf _ HLL.out] at hcall
      refine step_calls rfl 52 _ _ rfl #[.pointer (some ⟨b, 0, none⟩), .string (strOf [l0, l1, l2, l3])] (by simp [Act.eval]) (enters_of Tryd.func52 (by kernel_rfl) rfl) _ _ hcall ?_
      rintro w5 ⟨hl5, he5⟩
      have HL5 := Lib.hid hl5
      have HE5 := Lib.hid (HE4.out.trans (he5.mono (Nat.le_refl _)))
      clear hl5 he5 hcall
      simp only [Act.put, List.setIfInBounds_toArray, List.set_cons_zero, List.set_cons_succ]
      have hsl : ∀ w, (Instr.slice 9 (.string r) (some (.int .i64 3)) none none).run Tryd.prog w = .ok (.string (r.extract 3 r.size)) w := fun w => cutFrom r _ 3 rfl (by omega) w
      go_wp2_with fail
      refine ⟨⟨i + 1, r.extract 3 r.size, by rw [ByteArray.size_extract]; have := HI.out; omega, rfl, ?_, ?_, HE5.out⟩, by show (r.extract 3 r.size).size < r.size; rw [ByteArray.size_extract]; omega⟩
      · rw [bs_from, HR.out, List.drop_drop]; congr 1
      · rw [HT.out]; exact HL5.out
    · have hr3 : r.size = 0 ∨ r.size = 1 ∨ r.size = 2 := by omega
      have HW6 : Hid (Below wr.heap.size wr (wr.alloc (.cells #[] 5))) := (Below.refl _ _).alloc (Nat.le_refl _) _
      have HO6 : Hid (Owns (wr.alloc (.cells #[] 5)) wr.heap.size 5 (.slice (some ⟨wr.heap.size, 0, none⟩) 0 0) []) := Owns.lit (l := []) wr _ (Nat.le_refl _) (by simp [nums]) (by show 0 ≤ maxLen; decide)
      rcases hr3 with h0 | h1 | h2
      · have HT : Hid (C.b64Of (bs s) = C.b64Of ((bs s).take (3 * i))) := by unfold Hid; rw [List.take_of_length_le (by rw [length_bs]; have := HI.out; omega)]
        have HBN : Hid (wr.heap.size ≠ b) := by unfold Hid; have := HL.out.lt; omega
        go_wp2_with fail
        refine (writeW _ ⟨wr.heap.size, 0, none⟩ 0 [] (fun j hj => absurd hj (by simp)) HBN.out (HL.out.below HW6.out) (by have := HLEN.out; simp; omega) (Nat.le_trans HE.out.size HW6.out.size)).mono ?_
        rintro e wA ⟨rfl, hbl, hbe⟩
        have HLA := Lib.hid hbl
        have HEA := Lib.hid ((HE.out.trans (HW6.out.mono HE.out.size)).trans hbe)
        clear hbl hbe
        go_wp2_with fail
        refine (stringW wA HLA.out (by first | exact (by rw [← HT.out]; exact C.b64Of_byte _) | (rw [List.append_nil, ← HT.out]; exact C.b64Of_byte _)) HEA.out.size).mono ?_
        rintro e wB ⟨rfl, hb⟩
        have HEB := Lib.hid (HEA.out.trans hb)
        clear hb
        go_wp2_with fail
        go_ret
        exact ⟨by first | (rw [HT.out]; done) | simp [HT.out], HEB.out⟩
      · have b0 : 0 < r.size := by omega
        have bb0 : (0 : Int) < (r.size : Int) := by omega
        obtain ⟨x, hx⟩ : ∃ x, r[0].toNat = x := ⟨_, rfl⟩
        have bx : x < 256 := by rw [← hx]; exact UInt8.toNat_lt _
        have HT := Lib.hid (b64_one (bs s) i (by rw [length_bs]; have := HI.out; omega))
        have q0 : (bs s).getD (3 * i) 0 = x := by rw [← hx, get_bs r 0 b0, HR.out, U.getD_drop]; rfl
        rw [q0] at HT
        clear q0
        obtain ⟨X1, hX1⟩ : ∃ X, X = x * 65536 := ⟨_, rfl⟩
        have k1 : IntKind.i64.wrap (X1 : Int) = (X1 : Int) := IntWalk.i64_in _ (by omega)
        have k1' : (x : Int) * 65536 = (X1 : Int) := by omega
        have k3 : bits .or .i64 0 (X1 : Int) = (X1 : Int) := by have := or_i64 0 X1 (by omega) (by omega); rw [Nat.zero_or] at this; exact this
        obtain ⟨d0, hd0⟩ : ∃ X, X = X1 / 262144 := ⟨_, rfl⟩
        obtain ⟨q1, hq1⟩ : ∃ X, X = X1 / 4096 := ⟨_, rfl⟩
        obtain ⟨d1, hd1⟩ : ∃ X, X = q1 % 64 := ⟨_, rfl⟩
        have m0 : (X1 : Int) / 262144 = (d0 : Int) := by omega
        have m1 : (X1 : Int) / 4096 = (q1 : Int) := by omega
        have n0 : IntKind.i64.wrap (d0 : Int) = (d0 : Int) := IntWalk.i64_in _ (by omega)
        have n1 : IntKind.i64.wrap (q1 : Int) = (q1 : Int) := IntWalk.i64_in _ (by omega)
        have a1 : bits .and .i64 (q1 : Int) 63 = (d1 : Int) := by rw [hd1]; exact and63 q1 (by omega)
        have c1 : (q1 : Int) % 64 = (d1 : Int) := by omega
        have j0 := fun w => idxLt .i64 (d0 : Int) d0 rfl (by omega) w
        have j1 := fun w => idxLt .i64 (d1 : Int) d1 rfl (by omega) w
        unfold ltS at j0 j1
        rw [show x / 4 = d0 by omega, show x % 4 * 16 = d1 by omega] at HT
        obtain ⟨l0, e0⟩ : ∃ l, C.lt.getD d0 0 = l := ⟨_, rfl⟩
        obtain ⟨l1, e1⟩ : ∃ l, C.lt.getD d1 0 = l := ⟨_, rfl⟩
        rw [e0] at HT j0
        rw [e1] at HT j1
        clear hd0 hq1 hd1 e0 e1 hX1
        go_wp2_with fail
        refine wp_region_U 10 (fun _ => True) (by kernel_rfl) ?_
        change wpAnyU _ _ _ _ _ _ 11 (Array.replicate 11 false) _ _
        obtain ⟨w7, hw7⟩ : ∃ w7, w7 = (wr.alloc (.cells #[] 5)).drew := ⟨_, rfl⟩
        rw [← hw7]
        have HO7 : Hid (Owns w7 wr.heap.size 5 (.slice (some ⟨wr.heap.size, 0, none⟩) 0 0) []) := by unfold Hid; rw [hw7]; exact HO6.out.below (Below.refl _ _).drew
        have HW7 : Hid (Below wr.heap.size wr w7) := by unfold Hid; rw [hw7]; exact HW6.out.drew
        clear hw7
        refine takeU 0 (v := ?_) rfl (by kernel_rfl) (by kernel_rfl) (fun _ _ _ h => h) rfl (fun u hu => ?_) trivial ?_
        rotate_left
        · skip; go_simp <;> with_reducible rfl
        simp only [Act.put, List.setIfInBounds_toArray, List.set_cons_zero, List.set_cons_succ]
        refine takeU 1 (v := ?_) rfl (by kernel_rfl) (by kernel_rfl) (fun _ _ _ h => h) rfl (fun u hu => ?_) trivial ?_
        rotate_left
        · skip; go_simp <;> with_reducible rfl
        simp only [Act.put, List.setIfInBounds_toArray, List.set_cons_zero, List.set_cons_succ]
        refine takeU 2 (v := ?_) rfl (by kernel_rfl) (by kernel_rfl) (fun _ _ _ h => h) rfl (fun u hu => ?_) trivial ?_
        rotate_left
        · skip; go_simp <;> with_reducible rfl
        simp only [Act.put, List.setIfInBounds_toArray, List.set_cons_zero, List.set_cons_succ]
        refine takeU 3 (v := ?_) rfl (by kernel_rfl) (by kernel_rfl) (fun _ _ _ h => h) rfl (fun u hu => ?_) trivial ?_
        rotate_left
        · skip; go_simp <;> with_reducible rfl
        simp only [Act.put, List.setIfInBounds_toArray, List.set_cons_zero, List.set_cons_succ]
        refine takeU 4 (v := ?_) rfl (by kernel_rfl) (by kernel_rfl) (fun _ _ _ h => h) rfl (fun u hu => ?_) trivial ?_
        rotate_left
        · skip; go_simp <;> with_reducible rfl
        simp only [Act.put, List.setIfInBounds_toArray, List.set_cons_zero, List.set_cons_succ]
        refine takeU 5 (v := ?_) rfl (by kernel_rfl) (by kernel_rfl) (fun _ _ _ h => h) rfl (fun u hu => ?_) trivial ?_
        rotate_left
        · skip; go_simp <;> with_reducible rfl
        simp only [Act.put, List.setIfInBounds_toArray, List.set_cons_zero, List.set_cons_succ]
        refine takeU 6 (v := ?_) rfl (by kernel_rfl) (by kernel_rfl) (fun _ _ _ h => h) rfl (fun u hu => ?_) trivial ?_
        rotate_left
        · skip; go_simp <;> with_reducible rfl
        simp only [Act.put, List.setIfInBounds_toArray, List.set_cons_zero, List.set_cons_succ]
        refine takeU 8 (v := ?_) rfl (by kernel_rfl) (by kernel_rfl) (fun _ _ _ h => h) rfl (fun u hu => ?_) trivial ?_
        rotate_left
        · skip; go_simp <;> with_reducible rfl
        simp only [Act.put, List.setIfInBounds_toArray, List.set_cons_zero, List.set_cons_succ]
        refine oneU 7 (by kernel_rfl) ?_
        refine someU 7 rfl (by kernel_rfl) ?_
        refine step_run rfl (.slice (some ⟨w7.heap.size, 0, none⟩) 2 2) (w7.alloc (.cells #[.int .u8 (l0 : Int), .int .u8 (l1 : Int)] 5)) (by go_simp) ?_
        refine ⟨trivial, ?_⟩
        simp only [Act.put, List.setIfInBounds_toArray, List.set_cons_zero, List.set_cons_succ]
        have HN8 : Hid (Owns (w7.alloc (.cells #[.int .u8 (l0 : Int), .int .u8 (l1 : Int)] 5)) w7.heap.size 5 (.slice (some ⟨w7.heap.size, 0, none⟩) 2 2) [l0, l1]) := Owns.lit (l := [l0, l1]) w7 _ (Nat.le_refl _) (by simp [nums]) (by show 2 ≤ maxLen; decide)
        have HO8 : Hid (Owns (w7.alloc (.cells #[.int .u8 (l0 : Int), .int .u8 (l1 : Int)] 5)) wr.heap.size 5 (.slice (some ⟨wr.heap.size, 0, none⟩) 0 0) []) := HO7.out.alloc _
        have HW8 : Hid (Below wr.heap.size wr (w7.alloc (.cells #[.int .u8 (l0 : Int), .int .u8 (l1 : Int)] 5))) := HW7.out.alloc HW7.out.size _
        have HZ8 : Hid (w7.heap.size ≤ (w7.alloc (.cells #[.int .u8 (l0 : Int), .int .u8 (l1 : Int)] 5)).heap.size) := by unfold Hid; rw [szA]; omega
        obtain ⟨w8, hw8⟩ : ∃ w8, w8 = w7.alloc (.cells #[.int .u8 (l0 : Int), .int .u8 (l1 : Int)] 5) := ⟨_, rfl⟩
        rw [← hw8] at HN8 HO8 HW8 HZ8 ⊢
        clear hw8 HO7
        refine oneU 9 (by kernel_rfl) ?_
        refine someU 9 rfl (by kernel_rfl) ?_
        refine step_append_b rfl _ _ 36 rfl Tryd.underlying36 infoU8 rfl HN8.out ⟨wr.heap.size, 0, none⟩ 0 0 [] rfl rfl (fun j hj => ?_) (by simp) HZ8.out ?_
        · exact absurd hj (by simp)
        intro v9 w9 ho9 hg9
        have HO9 := Lib.hid ho9
        have HW9 := Lib.hid (HW8.out.grown hg9 HW8.out.size (fun k hk => by have h1 := (HN8.out.block hk).1; have h2 := HW7.out.size; omega))
        obtain ⟨g9, c9, hv9, hg90, hc9, hcell9⟩ := ho9.form (by simp)
        subst hv9
        have HGB : Hid (g9 ≠ b) := by unfold Hid; have h1 := HL.out.lt; have h2 := HW7.out.size; omega
        have HC9 := Lib.hid hcell9
        clear ho9 hg9 HN8 HO8 HW8 hg90 hcell9
        refine ⟨trivial, ?_⟩
        simp only [Act.put, List.setIfInBounds_toArray, List.set_cons_zero, List.set_cons_succ]
        refine oneU 10 (by kernel_rfl) ?_
        refine endU (v := ?_) 10 rfl (by kernel_rfl) (by kernel_rfl) rfl ?_ ?_
        rotate_left
        · go_simp <;> with_reducible rfl
        simp only [Act.put, List.setIfInBounds_toArray, List.set_cons_zero, List.set_cons_succ]
        go_wp2_with fail
        refine (writeW w9 ⟨g9, 0, none⟩ c9 [l0, l1] (fun j hj => by rw [show (⟨g9, 0, none⟩ : Addr).add j = ⟨g9, j, none⟩ by unfold Addr.add; simp; omega]; exact HC9.out j hj) HGB.out (HL.out.below HW9.out) (by have := HLEN.out; simp; omega) (Nat.le_trans HE.out.size HW9.out.size)).mono ?_
        rintro e wA ⟨rfl, hbl, hbe⟩
        have HLA := Lib.hid hbl
        have HEA := Lib.hid ((HE.out.trans (HW9.out.mono HE.out.size)).trans hbe)
        clear hbl hbe
        go_wp2_with fail
        refine (stringW wA HLA.out (by first | exact (by rw [← HT.out]; exact C.b64Of_byte _) | (rw [List.append_nil, ← HT.out]; exact C.b64Of_byte _)) HEA.out.size).mono ?_
        rintro e wB ⟨rfl, hb⟩
        have HEB := Lib.hid (HEA.out.trans hb)
        clear hb
        go_wp2_with fail
        go_ret
        exact ⟨by first | (rw [HT.out]; done) | simp [HT.out], HEB.out⟩
      · have b0 : 0 < r.size := by omega
        have bb0 : (0 : Int) < (r.size : Int) := by omega
        have b1 : 1 < r.size := by omega
        have bb1 : (1 : Int) < (r.size : Int) := by omega
        obtain ⟨x, hx⟩ : ∃ x, r[0].toNat = x := ⟨_, rfl⟩
        obtain ⟨y, hy⟩ : ∃ x, r[1].toNat = x := ⟨_, rfl⟩
        have bx : x < 256 := by rw [← hx]; exact UInt8.toNat_lt _
        have by' : y < 256 := by rw [← hy]; exact UInt8.toNat_lt _
        have HT := Lib.hid (b64_two (bs s) i (by rw [length_bs]; have := HI.out; omega))
        have q0 : (bs s).getD (3 * i) 0 = x := by rw [← hx, get_bs r 0 b0, HR.out, U.getD_drop]; rfl
        have q1 : (bs s).getD (3 * i + 1) 0 = y := by rw [← hy, get_bs r 1 b1, HR.out, U.getD_drop]
        rw [q0, q1] at HT
        clear q0 q1
        obtain ⟨X1, hX1⟩ : ∃ X, X = x * 65536 := ⟨_, rfl⟩
        obtain ⟨Y1, hY1⟩ : ∃ X, X = y * 256 := ⟨_, rfl⟩
        obtain ⟨P1, hP1⟩ : ∃ X, X = x * 65536 + y * 256 := ⟨_, rfl⟩
        have k1 : IntKind.i64.wrap (X1 : Int) = (X1 : Int) := IntWalk.i64_in _ (by omega)
        have k2 : IntKind.i64.wrap (Y1 : Int) = (Y1 : Int) := IntWalk.i64_in _ (by omega)
        have k1' : (x : Int) * 65536 = (X1 : Int) := by omega
        have k2' : (y : Int) * 256 = (Y1 : Int) := by omega
        have k3 : bits .or .i64 (Y1 : Int) (X1 : Int) = (P1 : Int) := by rw [hX1, hY1, hP1]; exact ro16 x (y * 256) bx (by omega)
        obtain ⟨q2, hq2⟩ : ∃ X, X = Y1 / 64 := ⟨_, rfl⟩
        obtain ⟨d2, hd2⟩ : ∃ X, X = q2 % 64 := ⟨_, rfl⟩
        have m2 : (Y1 : Int) / 64 = (q2 : Int) := by omega
        have n2 : IntKind.i64.wrap (q2 : Int) = (q2 : Int) := IntWalk.i64_in _ (by omega)
        have a2 : bits .and .i64 (q2 : Int) 63 = (d2 : Int) := by rw [hd2]; exact and63 q2 (by omega)
        have c2 : (q2 : Int) % 64 = (d2 : Int) := by omega
        have j2 := fun w => idxLt .i64 (d2 : Int) d2 rfl (by omega) w
        unfold ltS at j2
        obtain ⟨d0, hd0⟩ : ∃ X, X = P1 / 262144 := ⟨_, rfl⟩
        obtain ⟨q1, hq1⟩ : ∃ X, X = P1 / 4096 := ⟨_, rfl⟩
        obtain ⟨d1, hd1⟩ : ∃ X, X = q1 % 64 := ⟨_, rfl⟩
        have m0 : (P1 : Int) / 262144 = (d0 : Int) := by omega
        have m1 : (P1 : Int) / 4096 = (q1 : Int) := by omega
        have n0 : IntKind.i64.wrap (d0 : Int) = (d0 : Int) := IntWalk.i64_in _ (by omega)
        have n1 : IntKind.i64.wrap (q1 : Int) = (q1 : Int) := IntWalk.i64_in _ (by omega)
        have a1 : bits .and .i64 (q1 : Int) 63 = (d1 : Int) := by rw [hd1]; exact and63 q1 (by omega)
        have c1 : (q1 : Int) % 64 = (d1 : Int) := by omega
        have j0 := fun w => idxLt .i64 (d0 : Int) d0 rfl (by omega) w
        have j1 := fun w => idxLt .i64 (d1 : Int) d1 rfl (by omega) w
        unfold ltS at j0 j1
        rw [show x / 4 = d0 by omega, show x % 4 * 16 + y / 16 = d1 by omega, show y % 16 * 4 = d2 by omega] at HT
        obtain ⟨l0, e0⟩ : ∃ l, C.lt.getD d0 0 = l := ⟨_, rfl⟩
        obtain ⟨l1, e1⟩ : ∃ l, C.lt.getD d1 0 = l := ⟨_, rfl⟩
        obtain ⟨l2, e2⟩ : ∃ l, C.lt.getD d2 0 = l := ⟨_, rfl⟩
        rw [e0] at HT j0
        rw [e1] at HT j1
        rw [e2] at HT j2
        clear hd0 hq1 hd1 hq2 hd2 e0 e1 e2 hX1 hY1 hP1
        have HO6b : Hid (Owns ((wr.alloc (.cells #[] 5)).alloc (.cells #[.int .u8 (l2 : Int)] 5)) wr.heap.size 5 (.slice (some ⟨wr.heap.size, 0, none⟩) 0 0) []) := HO6.out.alloc _
        go_wp2_with (at_builtin; refine wpList_append_bytes rfl (.tmp 53) (.tmp 58) 36 rfl Tryd.underlying36 infoU8 rfl HO6b.out ⟨wr.heap.size + 1, 0, none⟩ 1 1 [l2] rfl rfl ?p1 ?p2 ?p3 ?_)
        try (case p1 => intro j hj; obtain rfl : j = 0 := (by omega); simp [Addr.add])
        try (case p2 => simp)
        case p3 => first | omega | (rw [szA, szA]; omega) | simp
        intro v5 w5 ho5 hg5 _
        have HW5 := Lib.hid ((HW6.out.alloc HW6.out.size (.cells #[.int .u8 (l2 : Int)] 5)).grown hg5 (by simp; omega) (fun k hk => (HO6b.out.block hk).1))
        obtain ⟨g5, c5, hv5, hg50, hc5, hcell5⟩ := ho5.form (by simp)
        subst hv5
        have HO5 := Lib.hid ho5
        have HC5 := Lib.hid hcell5
        clear ho5 hg5 hcell5 hg50 HO6 HW6 HO6b
        have HO6 := HO5
        have HW6 := HW5
        go_wp2_with fail
        refine wp_region_U 10 (fun _ => True) (by kernel_rfl) ?_
        change wpAnyU _ _ _ _ _ _ 11 (Array.replicate 11 false) _ _
        obtain ⟨w7, hw7⟩ : ∃ w7, w7 = w5.drew := ⟨_, rfl⟩
        rw [← hw7]
        have HO7 : Hid (Owns w7 wr.heap.size 5 (.slice (some ⟨g5, 0, none⟩) 1 c5) [l2]) := by unfold Hid; rw [hw7]; exact HO6.out.below (Below.refl _ _).drew
        have HW7 : Hid (Below wr.heap.size wr w7) := by unfold Hid; rw [hw7]; exact HW6.out.drew
        clear hw7
        refine takeU 0 (v := ?_) rfl (by kernel_rfl) (by kernel_rfl) (fun _ _ _ h => h) rfl (fun u hu => ?_) trivial ?_
        rotate_left
        · skip; go_simp <;> with_reducible rfl
        simp only [Act.put, List.setIfInBounds_toArray, List.set_cons_zero, List.set_cons_succ]
        refine takeU 1 (v := ?_) rfl (by kernel_rfl) (by kernel_rfl) (fun _ _ _ h => h) rfl (fun u hu => ?_) trivial ?_
        rotate_left
        · skip; go_simp <;> with_reducible rfl
        simp only [Act.put, List.setIfInBounds_toArray, List.set_cons_zero, List.set_cons_succ]
        refine takeU 2 (v := ?_) rfl (by kernel_rfl) (by kernel_rfl) (fun _ _ _ h => h) rfl (fun u hu => ?_) trivial ?_
        rotate_left
        · skip; go_simp <;> with_reducible rfl
        simp only [Act.put, List.setIfInBounds_toArray, List.set_cons_zero, List.set_cons_succ]
        refine takeU 3 (v := ?_) rfl (by kernel_rfl) (by kernel_rfl) (fun _ _ _ h => h) rfl (fun u hu => ?_) trivial ?_
        rotate_left
        · skip; go_simp <;> with_reducible rfl
        simp only [Act.put, List.setIfInBounds_toArray, List.set_cons_zero, List.set_cons_succ]
        refine takeU 4 (v := ?_) rfl (by kernel_rfl) (by kernel_rfl) (fun _ _ _ h => h) rfl (fun u hu => ?_) trivial ?_
        rotate_left
        · skip; go_simp <;> with_reducible rfl
        simp only [Act.put, List.setIfInBounds_toArray, List.set_cons_zero, List.set_cons_succ]
        refine takeU 5 (v := ?_) rfl (by kernel_rfl) (by kernel_rfl) (fun _ _ _ h => h) rfl (fun u hu => ?_) trivial ?_
        rotate_left
        · skip; go_simp <;> with_reducible rfl
        simp only [Act.put, List.setIfInBounds_toArray, List.set_cons_zero, List.set_cons_succ]
        refine takeU 6 (v := ?_) rfl (by kernel_rfl) (by kernel_rfl) (fun _ _ _ h => h) rfl (fun u hu => ?_) trivial ?_
        rotate_left
        · skip; go_simp <;> with_reducible rfl
        simp only [Act.put, List.setIfInBounds_toArray, List.set_cons_zero, List.set_cons_succ]
        refine takeU 8 (v := ?_) rfl (by kernel_rfl) (by kernel_rfl) (fun _ _ _ h => h) rfl (fun u hu => ?_) trivial ?_
        rotate_left
        · skip; go_simp <;> with_reducible rfl
        simp only [Act.put, List.setIfInBounds_toArray, List.set_cons_zero, List.set_cons_succ]
        refine oneU 7 (by kernel_rfl) ?_
        refine someU 7 rfl (by kernel_rfl) ?_
        refine step_run rfl (.slice (some ⟨w7.heap.size, 0, none⟩) 2 2) (w7.alloc (.cells #[.int .u8 (l0 : Int), .int .u8 (l1 : Int)] 5)) (by go_simp) ?_
        refine ⟨trivial, ?_⟩
        simp only [Act.put, List.setIfInBounds_toArray, List.set_cons_zero, List.set_cons_succ]
        have HN8 : Hid (Owns (w7.alloc (.cells #[.int .u8 (l0 : Int), .int .u8 (l1 : Int)] 5)) w7.heap.size 5 (.slice (some ⟨w7.heap.size, 0, none⟩) 2 2) [l0, l1]) := Owns.lit (l := [l0, l1]) w7 _ (Nat.le_refl _) (by simp [nums]) (by show 2 ≤ maxLen; decide)
        have HO8 : Hid (Owns (w7.alloc (.cells #[.int .u8 (l0 : Int), .int .u8 (l1 : Int)] 5)) wr.heap.size 5 (.slice (some ⟨g5, 0, none⟩) 1 c5) [l2]) := HO7.out.alloc _
        have HW8 : Hid (Below wr.heap.size wr (w7.alloc (.cells #[.int .u8 (l0 : Int), .int .u8 (l1 : Int)] 5))) := HW7.out.alloc HW7.out.size _
        have HZ8 : Hid (w7.heap.size ≤ (w7.alloc (.cells #[.int .u8 (l0 : Int), .int .u8 (l1 : Int)] 5)).heap.size) := by unfold Hid; rw [szA]; omega
        obtain ⟨w8, hw8⟩ : ∃ w8, w8 = w7.alloc (.cells #[.int .u8 (l0 : Int), .int .u8 (l1 : Int)] 5) := ⟨_, rfl⟩
        rw [← hw8] at HN8 HO8 HW8 HZ8 ⊢
        clear hw8 HO7
        refine oneU 9 (by kernel_rfl) ?_
        refine someU 9 rfl (by kernel_rfl) ?_
        refine step_append_b rfl _ _ 36 rfl Tryd.underlying36 infoU8 rfl HN8.out ⟨g5, 0, none⟩ 1 c5 [l2] rfl rfl (fun j hj => ?_) (by simp) HZ8.out ?_
        · obtain rfl : j = 0 := by omega
          obtain ⟨g', c', hv', _, _, hcl⟩ := HO8.out.form (by simp)
          injection hv' with e1
          injection e1 with e1
          injection e1 with e1
          subst e1
          exact hcl 0 (by simp)
        intro v9 w9 ho9 hg9
        have HO9 := Lib.hid ho9
        have HW9 := Lib.hid (HW8.out.grown hg9 HW8.out.size (fun k hk => by have h1 := (HN8.out.block hk).1; have h2 := HW7.out.size; omega))
        obtain ⟨g9, c9, hv9, hg90, hc9, hcell9⟩ := ho9.form (by simp)
        subst hv9
        have HGB : Hid (g9 ≠ b) := by unfold Hid; have h1 := HL.out.lt; have h2 := HW7.out.size; omega
        have HC9 := Lib.hid hcell9
        clear ho9 hg9 HN8 HO8 HW8 hg90 hcell9
        refine ⟨trivial, ?_⟩
        simp only [Act.put, List.setIfInBounds_toArray, List.set_cons_zero, List.set_cons_succ]
        refine oneU 10 (by kernel_rfl) ?_
        refine endU (v := ?_) 10 rfl (by kernel_rfl) (by kernel_rfl) rfl ?_ ?_
        rotate_left
        · go_simp <;> with_reducible rfl
        simp only [Act.put, List.setIfInBounds_toArray, List.set_cons_zero, List.set_cons_succ]
        go_wp2_with fail
        refine (writeW w9 ⟨g9, 0, none⟩ c9 [l0, l1, l2] (fun j hj => by rw [show (⟨g9, 0, none⟩ : Addr).add j = ⟨g9, j, none⟩ by unfold Addr.add; simp; omega]; exact HC9.out j hj) HGB.out (HL.out.below HW9.out) (by have := HLEN.out; simp; omega) (Nat.le_trans HE.out.size HW9.out.size)).mono ?_
        rintro e wA ⟨rfl, hbl, hbe⟩
        have HLA := Lib.hid hbl
        have HEA := Lib.hid ((HE.out.trans (HW9.out.mono HE.out.size)).trans hbe)
        clear hbl hbe
        go_wp2_with fail
        refine (stringW wA HLA.out (by first | exact (by rw [← HT.out]; exact C.b64Of_byte _) | (rw [List.append_nil, ← HT.out]; exact C.b64Of_byte _)) HEA.out.size).mono ?_
        rintro e wB ⟨rfl, hb⟩
        have HEB := Lib.hid (HEA.out.trans hb)
        clear hb
        go_wp2_with fail
        go_ret
        exact ⟨by first | (rw [HT.out]; done) | simp [HT.out], HEB.out⟩
end Go.Proofs.YthdoeaiehajofaaDoor
