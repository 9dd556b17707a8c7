/- The document's place and read. -/
import Derived.Test.YthdoeaiehajofaaDoorTBits
import Derived.Test.YthdoeaiehajofaaDoorTRHex
import Derived.Test.YthdoeaiehajofaaDoorTRCur
import Derived.Test.YthdoeaiehajofaaDoorTFromHex
namespace Go.Proofs.YthdoeaiehajofaaDoor
set_option linter.unusedVariables false
set_option maxRecDepth 100000
open Go.RowKit
set_option maxHeartbeats 1000000 in
theorem rplaceW (al : ByteArray) (c : Nat) (w : World) (hc : c < 256) (hal : al.size ≤ 255) :
    Calls Tryd.prog 60 #[.string al, .int .u8 (c : Nat)] w fun e w' => e = .returned (.int .i64 (if (bs al).idxOf c < al.size then (((bs al).idxOf c : Nat) : Int) else -1)) ∧ w' = w := by
  obtain ⟨R, hR⟩ : ∃ R : Int, R = if (bs al).idxOf c < al.size then (((bs al).idxOf c : Nat) : Int) else -1 := ⟨_, rfl⟩
  rw [← hR]
  have HR := Lib.hid hR
  clear hR
  go_enter Tryd.func60, Tryd.ntmps60
  go_wp2_with fail
  go_loop [5] (fun v => ∃ i : Nat, i ≤ al.size ∧ v = .int .i64 (i : Nat) ∧ ∀ j, j < i → (bs al).getD j 0 ≠ c) (fun v => (al.size - intOf v).toNat)
  case atStart => exact ⟨0, by omega, rfl, fun j hj => by omega⟩
  case round =>
    obtain ⟨i, hi, rfl, hno⟩ := hrel
    have HN := Lib.hid hno
    clear hno
    by_cases hlt : i < al.size
    · obtain ⟨x, hx⟩ : ∃ x, al[i].toNat = x := ⟨_, rfl⟩
      have HX : Hid ((bs al).getD i 0 = x) := by unfold Hid; rw [← hx, get_bs al i hlt]
      by_cases hxc : x = c
      · subst hxc
        go_wp2_with fail
        go_ret
        have e : (bs al).idxOf x = i := idx_is HN.out (by rw [length_bs]; exact hlt) HX.out
        exact ⟨by rw [HR.out, e, if_pos hlt]; rfl, rfl⟩
      · have hb : ((x : Int) == (c : Int)) = false := by rw [beq_eq_false_iff_ne]; omega
        have HXC := Lib.hid hxc
        clear hxc
        go_wp2_with fail
        go_round
        case rel => exact ⟨i + 1, by omega, by go_num, fun j hj => by
          by_cases e : j = i
          · subst e; rw [HX.out]; exact HXC.out
          · exact HN.out j (by omega)⟩
        case measure => simp [intOf]; omega
    · go_wp2_with fail
      go_ret
      have := not_idx HN.out (by rw [length_bs]; omega)
      exact ⟨by rw [HR.out, if_neg (by omega)]; rfl, rfl⟩
theorem and1 (q : Nat) (h : q < 2 ^ 40) : bits .and .i64 (q : Int) 1 = ((q % 2 : Nat) : Int) := by
  show IntKind.i64.wrap ((BitVec.ofInt 64 (q : Int) &&& BitVec.ofInt 64 1).toNat : Int) = _
  rw [BitVec.toNat_and, toNat_ofInt_nat 64 q (by omega), show (BitVec.ofInt 64 1).toNat = 2 ^ 1 - 1 by decide, Nat.and_two_pow_sub_one_eq_mod]
  exact IntWalk.i64_in _ (by omega)
theorem digs_take (al l : List Nat) (i : Nat) (h : i < l.length) : C.digs al (l.take (i + 1)) = C.digs al (l.take i) ++ [al.idxOf (l.getD i 0)] := by
  rw [take_succ_lt l i h 0]; simp [C.digs]
def zl (l : List Nat) : List Int := l.map Int.ofNat
theorem zl_append (a b : List Nat) : zl (a ++ b) = zl a ++ zl b := by simp [zl]
theorem zl_length (a : List Nat) : (zl a).length = a.length := by simp [zl]
theorem zl_getD (a : List Nat) (i : Nat) (h : i < a.length) : (zl a).getD i 0 = ((a.getD i 0 : Nat) : Int) := by
  unfold zl
  rw [List.getD_eq_getElem?_getD, List.getElem?_map, List.getElem?_eq_getElem h, List.getD_eq_getElem?_getD, List.getElem?_eq_getElem h]; rfl
theorem val_step (B : List Nat) (q j : Nat) : (List.range (j + 1)).foldl (fun n j => 2 * n + B.getD (8 * q + j) 0) 0 = 2 * (List.range j).foldl (fun n j => 2 * n + B.getD (8 * q + j) 0) 0 + B.getD (8 * q + j) 0 := by
  rw [List.range_succ, List.foldl_append]; rfl
theorem val_bd (B : List Nat) (q : Nat) (h : ∀ b ∈ B, b ≤ 1) : ∀ j, (List.range j).foldl (fun n j => 2 * n + B.getD (8 * q + j) 0) 0 < 2 ^ j
  | 0 => by simp
  | j + 1 => by rw [val_step]; have := val_bd B q h j; have := C.getD_le h (8 * q + j); rw [Nat.pow_succ]; omega
def ReadPost (w : World) (s : ByteArray) (al : List Nat) (wide : Nat) (e : Ending) (w' : World) : Prop := Below w.heap.size w w' ∧
  (((∀ c ∈ bs s, al.idxOf c < al.length) ∧ e = .returned (.tuple #[.string (strOf (C.rd (C.bitsOf wide (C.digs al (bs s))))), .bool true])) ∨
   ((∃ c ∈ bs s, ¬ al.idxOf c < al.length) ∧ e = .returned (.tuple #[.string ⟨#[]⟩, .bool false])))
set_option maxHeartbeats 8000000 in
theorem rreadW (s al : ByteArray) (wide : Nat) (w : World) (hs : s.size ≤ 4194304) (hal : al.size ≤ 255) (h1 : 1 ≤ wide) (h8 : wide ≤ 8) : Calls Tryd.prog 48 #[.string s, .string al, .int .i64 (wide : Nat)] w (ReadPost w s (bs al) wide) := by
  obtain ⟨n0, hn0⟩ : ∃ n, n = w.heap.size := ⟨_, rfl⟩
  unfold ReadPost
  rw [← hn0]
  have HN0 := Lib.hid hn0
  clear hn0
  have HLB : Hid ((bs al).length = al.size) := length_bs al
  go_enter Tryd.func48, Tryd.ntmps48
  go_wp2_with fail
  go_loopw [8, 9] (fun v8 v9 wr => ∃ i : Nat, i ≤ s.size ∧ v9 = .int .i64 (i : Nat) ∧ (∀ j, j < i → (bs al).idxOf ((bs s).getD j 0) < al.size) ∧ OwnsZ wr n0 3 .i64 v8 (zl (C.bitsOf wide (C.digs (bs al) ((bs s).take i)))) ∧ Below n0 w wr ∧ n0 ≤ wr.heap.size) (fun _ v9 _ => (s.size - intOf v9).toNat)
  case atStart =>
    exact ⟨0, by omega, rfl, fun j hj => by omega, OwnsZ.lit w 3 .i64 [] _ (by rw [HN0.out]; exact Nat.le_refl _) (by simp) (by show 0 ≤ maxLen; decide), (Below.refl _ _).alloc (by rw [HN0.out]; exact Nat.le_refl _) _, by rw [szA, HN0.out]; omega⟩
  case round =>
    obtain ⟨i, hi, rfl, hall, hown, hbe, hz⟩ := hrel
    obtain ⟨p8, c8, rfl⟩ := hown.shape
    obtain ⟨L, hL⟩ : ∃ L, L = (zl (C.bitsOf wide (C.digs (bs al) ((bs s).take i)))).length := ⟨_, rfl⟩
    rw [← hL] at hown ⊢
    have hL2 : L = wide * i := by rw [hL, zl_length, C.bitsOf_length]; unfold C.digs; rw [List.length_map, List.length_take, length_bs, Nat.min_eq_left hi]
    have hL3 : L ≤ 33554432 := by rw [hL2]; exact Nat.le_trans (Nat.mul_le_mul h8 hi) (by omega)
    have HO := Lib.hid hown
    have HE := Lib.hid hbe
    have HZ := Lib.hid hz
    have HALL := Lib.hid hall
    have HL := Lib.hid hL
    have HL2 := Lib.hid hL2
    have HL3 := Lib.hid hL3
    clear hown hbe hz hall hL hL2 hL3
    by_cases hlt : i < s.size
    · obtain ⟨x, hx⟩ : ∃ x, s[i].toNat = x := ⟨_, rfl⟩
      have bx : x < 256 := by rw [← hx]; exact UInt8.toNat_lt _
      have HX : Hid ((bs s).getD i 0 = x) := by unfold Hid; rw [← hx, get_bs s i hlt]
      obtain ⟨d, hd⟩ : ∃ d, d = (bs al).idxOf x := ⟨_, rfl⟩
      have HD := Lib.hid hd
      have hp := rplaceW al x wr bx hal
      rw [← hd] at hp
      clear hd
      by_cases hin : d < al.size
      · rw [if_pos hin] at hp
        have HIN := Lib.hid hin
        have HP := Lib.hid hp
        have hd255 : d ≤ 255 := by omega
        clear hp hin
        go_wp2_with fail
        refine HP.out.mono ?_
        rintro e w1 ⟨rfl, h1⟩
        rw [h1]
        clear h1
        go_wp2_with fail
        go_loopw [8, 11] (fun v8 v11 wq => ∃ (z : Int) (t : Nat), -1 ≤ z ∧ z + 1 + t = wide ∧ v11 = .int .i64 z ∧ OwnsZ wq n0 3 .i64 v8 (zl (C.bitsOf wide (C.digs (bs al) ((bs s).take i)) ++ (C.bitsN wide d).take t)) ∧ Below n0 w wq ∧ n0 ≤ wq.heap.size) (fun _ v11 _ => (intOf v11 + 1).toNat)
        case atStart => exact ⟨(wide : Int) - 1, 0, by omega, by omega, rfl, by rw [List.take_zero, List.append_nil]; exact HO.out, HE.out, HZ.out⟩
        case round =>
          obtain ⟨z, t, hz1, hzt, rfl, hoq, hbq, hzq⟩ := hrel
          obtain ⟨pq, cq, rfl⟩ := hoq.shape
          obtain ⟨M, hM⟩ : ∃ M, M = (zl (C.bitsOf wide (C.digs (bs al) ((bs s).take i)) ++ (C.bitsN wide d).take t)).length := ⟨_, rfl⟩
          rw [← hM] at hoq ⊢
          have hM2 : M ≤ L + t := by rw [hM, zl_length, List.length_append, List.length_take, HL.out, zl_length]; omega
          have HQ := Lib.hid hoq
          have HBQ := Lib.hid hbq
          have HZQ := Lib.hid hzq
          have HM := Lib.hid hM
          have HM2 := Lib.hid hM2
          have HZT := Lib.hid hzt
          have hzw : z ≤ 7 := by omega
          clear hoq hbq hzq hM hM2 hzt
          by_cases hz0 : 0 ≤ z
          · obtain ⟨j, rfl⟩ : ∃ j : Nat, z = j := ⟨z.toNat, by omega⟩
            have hj7 : j ≤ 7 := by omega
            obtain ⟨q, hq⟩ : ∃ q, q = d / 2 ^ j := ⟨_, rfl⟩
            have hqd : q ≤ d := by rw [hq]; exact Nat.div_le_self _ _
            have e1 : (d : Int) / 2 ^ j = (q : Int) := by rw [hq]; simp
            obtain ⟨y, hy⟩ : ∃ y, y = q % 2 := ⟨_, rfl⟩
            have e2 : bits .and .i64 (q : Int) 1 = (y : Int) := by rw [hy]; exact and1 q (by omega)
            have e3 : (q : Int) % 2 = (y : Int) := by omega
            have HT : Hid ((C.bitsN wide d).take (t + 1) = (C.bitsN wide d).take t ++ [y]) := by
              have h := C.bitsN_take wide d t (by have := HZT.out; omega)
              rw [show wide - 1 - t = j by have := HZT.out; omega, ← hq, ← hy] at h
              exact h
            clear hq hy
            go_wp2_with (at_builtin; refine wpList_append_z rfl (.tmp 36) (.tmp 41) _ rfl Tryd.underlying22 infoI64 (by decide) rfl (HQ.out.alloc _) ⟨wr.heap.size, 0, none⟩ 1 1 [(y : Int)] rfl rfl ?d1 ?d2 ?d3 ?_)
            try (case d1 => intro j hj; obtain rfl : j = 0 := (by omega); simp [Addr.add])
            try (case d2 => rw [← HM.out]; have := HM2.out; have := HL3.out; have := HZT.out; omega)
            try (case d3 => have := HZQ.out; simp; omega)
            intro v5 w5 ho5 hg5 hv5
            have HO5 := Lib.hid ho5
            have HB5 := Lib.hid ((HBQ.out.alloc HZQ.out (.cells #[.int .i64 (y : Int)] 3)).grown hg5 (by have := HZQ.out; simp; omega) (fun k hk => (HQ.out.block hk).1))
            have HZ5 : Hid (n0 ≤ w5.heap.size) := by unfold Hid; have h1 := hg5.size; rw [szA] at h1; have := HZQ.out; omega
            clear ho5 hg5 hv5
            go_wp2_with fail
            refine ⟨⟨(j : Int) - 1, t + 1, by omega, by have := HZT.out; omega, rfl, ?_, HB5.out, HZ5.out⟩, by simp [intOf]⟩
            rw [HT.out, ← List.append_assoc, zl_append]
            exact HO5.out
          · have hze : z = -1 := by omega
            subst hze
            have htw : t = wide := by have := HZT.out; omega
            have HTW := Lib.hid htw
            clear htw
            go_wp2_with fail
            refine ⟨⟨i + 1, by omega, rfl, fun j hj => ?_, ?_, HBQ.out, HZQ.out⟩, by simp [intOf]; omega⟩
            · by_cases e : j = i
              · subst e; rw [HX.out, ← HD.out]; exact HIN.out
              · exact HALL.out j (by omega)
            · rw [digs_take _ _ _ (by rw [length_bs]; exact hlt), C.bitsOf_append, HX.out, ← HD.out]
              have h := HQ.out
              rw [HTW.out, show (C.bitsN wide d).take wide = C.bitsN wide d from List.take_of_length_le (by rw [C.bitsN_length]; exact Nat.le_refl _)] at h
              rw [show C.bitsOf wide [d] = C.bitsN wide d by simp [C.bitsOf]]
              exact h
      · rw [if_neg hin] at hp
        have HIN := Lib.hid hin
        have HP := Lib.hid hp
        clear hp hin
        go_wp2_with fail
        refine HP.out.mono ?_
        rintro e w1 ⟨rfl, h1⟩
        rw [h1]
        clear h1
        go_wp2_with fail
        go_ret2
        refine ⟨HE.out, .inr ⟨⟨x, ?_, ?_⟩, rfl⟩⟩
        · rw [← HX.out, List.getD_eq_getElem?_getD, List.getElem?_eq_getElem (by rw [length_bs]; exact hlt)]; exact List.getElem_mem _
        · rw [HLB.out, ← HD.out]; exact HIN.out
    · have hie : (bs s).take i = bs s := List.take_of_length_le (by rw [length_bs]; omega)
      rw [hie] at HO HL
      have HA2 : Hid (∀ c ∈ bs s, (bs al).idxOf c < (bs al).length) := all_in (by rw [length_bs]; intro j hj; rw [length_bs]; exact HALL.out j (by omega))
      obtain ⟨B, hB⟩ : ∃ B, B = C.bitsOf wide (C.digs (bs al) (bs s)) := ⟨_, rfl⟩
      rw [← hB] at HO HL
      have HBB := Lib.hid hB
      have hB1 : ∀ b ∈ B, b ≤ 1 := by rw [hB]; exact C.bitsOf_le _ _
      have HB1 := Lib.hid hB1
      have HLB2 : Hid (L = B.length) := by unfold Hid; rw [HL.out, zl_length]
      have hLL := HL3.out
      clear hie hB hB1
      obtain ⟨wo, hwo⟩ : ∃ wo, wo = wr := ⟨_, rfl⟩
      subst hwo
      have HOB : Hid (OwnsZ (wo.alloc (.cells #[] 5)) n0 3 .i64 (.slice p8 L c8) (zl B)) := HO.out.alloc _
      go_wp2_with fail
      go_loopw [12, 13] (fun v12 v13 wq => ∃ q : Nat, 8 * q ≤ L ∧ v13 = .int .i64 ((8 * q : Nat) : Int) ∧ Owns wq wo.heap.size 5 v12 ((List.range q).map (C.val8 B)) ∧ Below wo.heap.size wo wq) (fun _ v13 _ => (L - intOf v13).toNat)
      case atStart => exact ⟨0, by omega, rfl, Owns.lit (l := []) wo _ (Nat.le_refl _) (by simp [nums]) (by show 0 ≤ maxLen; decide), (Below.refl _ _).alloc (Nat.le_refl _) _⟩
      case round =>
        obtain ⟨q, hq8, rfl, hoq, hbq⟩ := hrel
        obtain ⟨p12, c12, rfl⟩ := hoq.shape
        obtain ⟨M, hM⟩ : ∃ M, M = ((List.range q).map (C.val8 B)).length := ⟨_, rfl⟩
        rw [← hM] at hoq ⊢
        have hMq : M = q := by rw [hM]; simp
        have HQ := Lib.hid hoq
        have HBQ := Lib.hid hbq
        have HM := Lib.hid hM
        have HMQ := Lib.hid hMq
        have HOI : Hid (OwnsZ wr n0 3 .i64 (.slice p8 L c8) (zl B)) := HO.out.below hbq
        obtain ⟨k, hk⟩ : ∃ k, k = 8 * q := ⟨_, rfl⟩
        rw [← hk] at hq8 ⊢
        have HK := Lib.hid hk
        clear hoq hbq hM hMq hk
        by_cases h8l : k + 8 ≤ L
        · have h8i : (k : Int) + 8 ≤ (L : Int) := by omega
          go_wp2_with fail
          go_loop [14, 15] (fun v14 v15 => ∃ j n : Nat, j ≤ 8 ∧ v15 = .int .i64 (j : Nat) ∧ v14 = .int .i64 (n : Nat) ∧ n < 256 ∧ n = (List.range j).foldl (fun n j => 2 * n + B.getD (8 * q + j) 0) 0) (fun _ v15 => (8 - intOf v15).toNat)
          case atStart => exact ⟨0, 0, by omega, rfl, rfl, by omega, by simp⟩
          case round =>
            obtain ⟨j, n, hj, rfl, rfl, hn, hnv⟩ := hrel
            have HNV := Lib.hid hnv
            clear hnv
            by_cases hj8 : j < 8
            · have hkj : k + j < B.length := by rw [← HLB2.out]; omega
              obtain ⟨g, cap, hv, hcell⟩ := HOI.out.cell (k + j) (by rw [zl_length]; exact hkj)
              injection hv with e1
              subst e1
              rw [zl_getD B (k + j) hkj] at hcell
              obtain ⟨y, hy⟩ : ∃ y, y = B.getD (k + j) 0 := ⟨_, rfl⟩
              rw [← hy] at hcell
              have hy1 : y ≤ 1 := by rw [hy]; exact C.getD_le HB1.out _
              have HY : Hid (B.getD (8 * q + j) 0 = y) := by unfold Hid; rw [hy, HK.out]
              have hkjL : k + j < L := by rw [HLB2.out]; exact hkj
              have t1 : ((k : Int) + (j : Int)).toNat = k + j := by omega
              have t2 : (k : Int) + (j : Int) < (L : Int) := by omega
              have t3 : (0 : Int) ≤ (k : Int) + (j : Int) := by omega
              have HSTEP : Hid ((List.range (j + 1)).foldl (fun n j => 2 * n + B.getD (8 * q + j) 0) 0 = 2 * n + y) := by unfold Hid; rw [val_step, HNV.out, HY.out]
              have HBD := Lib.hid (val_bd B q HB1.out (j + 1))
              clear hy hkj
              go_wp2_with fail
              go_round
              case rel =>
                refine ⟨j + 1, 2 * n + y, by omega, by go_num, by go_num, ?_, HSTEP.out.symm⟩
                have h := HBD.out
                rw [HSTEP.out] at h
                have : 2 ^ (j + 1) ≤ 2 ^ 8 := Nat.pow_le_pow_right (by omega) (by omega)
                omega
              case measure => simp [intOf]; omega
            · have hje : j = 8 := by omega
              subst hje
              have HV : Hid (n = C.val8 B q) := HNV.out
              have hcv : IntKind.u8.wrap (n : Int) = (n : Int) := IntWalk.u8_in _ (by omega)
              go_wp2_with (at_builtin; refine wpList_append_bytes rfl (.tmp 64) (.tmp 67) 36 rfl Tryd.underlying36 infoU8 rfl (HQ.out.alloc _) ⟨wr.heap.size, 0, none⟩ 1 1 [n] rfl rfl ?n2 ?n3 ?n4 ?_)
              try (case n2 => intro j hj; obtain rfl : j = 0 := (by omega); simp [Addr.add])
              try (case n3 => have h1 := HK.out; first | (rw [← HM.out, HMQ.out]; omega) | (simp; omega) | omega)
              try (case n4 => have := HBQ.out.size; simp; omega)
              intro v5 w5 ho5 hg5 hv5
              have HO5 := Lib.hid ho5
              have HB5 := Lib.hid ((HBQ.out.alloc HBQ.out.size (.cells #[.int .u8 (n : Int)] 5)).grown hg5 (by have := HBQ.out.size; simp; omega) (fun x hx => (HQ.out.block hx).1))
              clear ho5 hg5 hv5
              go_wp2_with fail
              refine ⟨⟨q + 1, by have := HK.out; omega, by rw [HK.out]; congr 1, ?_, HB5.out⟩, by simp [intOf]; omega⟩
              rw [List.range_succ, List.map_append]
              have h := HO5.out
              rw [HV.out] at h
              exact h
        · have h8i : ¬ (k : Int) + 8 ≤ (L : Int) := by omega
          have hqe : (List.range q).map (C.val8 B) = C.rd B := by
            rw [C.rd_eq, ← HLB2.out, show L / 8 = q by have := HK.out; omega]
          rw [hqe] at HQ
          clear hqe
          go_wp2_with (with_reducible refine wpList_owned_string rfl 36 9 _ rfl Tryd.underlying36 Tryd.underlying5 Tryd.underlying9 rfl HQ.out ?_)
          go_ret2
          exact ⟨HE.out.trans (HBQ.out.mono HZ.out), .inl ⟨HA2.out, by rw [HBB.out]; rfl⟩⟩
end Go.Proofs.YthdoeaiehajofaaDoor
