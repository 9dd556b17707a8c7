/- The law TextWithin, walked. -/
import Derived.Test.YthdoeaiehajofaaDoorTLParts
import Derived.Test.YthdoeaiehajofaaDoorRU
namespace Go.Proofs.YthdoeaiehajofaaDoor
set_option linter.unusedVariables false
set_option maxRecDepth 100000
open Go.RowKit
theorem leftCV {b : Nat} {s : ByteArray} {k : Nat} (w : World) (z : Int) (h : IsC w b 70 s k) (hz : (s.size : Int) - (k : Nat) = z) : Calls Tryd.prog 21 #[.pointer (some ⟨b, 0, none⟩)] w fun e w' => e = .returned (.int .i64 z) ∧ w' = w.drew := by
  rw [← hz]; exact leftCW w h
theorem atCV {b : Nat} {s : ByteArray} {k : Nat} (w : World) (z : Int) (h : IsC w b 70 s k) (hz : ((k : Nat) : Int) = z) : Calls Tryd.prog 24 #[.pointer (some ⟨b, 0, none⟩)] w fun e w' => e = .returned (.int .i64 z) ∧ w' = w := by
  rw [← hz]; exact atCW w h
theorem cell_heap {w u : World} {a : Addr} {v : Value} (h : w.cell? a = some v) (e : u.heap = w.heap) : u.cell? a = some v := by
  unfold World.cell? at h ⊢; rw [e]; exact h
set_option maxHeartbeats 16000000 in
theorem withinLaw (s : ByteArray) (vz : Value) (zs : List Int) (w : World) (hgl : Glob w) (hs : s.size ≤ 4194304) (hz : Ints w vz zs) (hzl : zs.length ≤ 4194304) (hzr : ∀ i, -9223372036854775808 ≤ zs.getD i 0 ∧ zs.getD i 0 ≤ 9223372036854775807) :
    Calls Tryd.prog 6 #[.string s, vz] w fun e w' => e = .returned (.bool true) ∧ Below w.heap.size w w' := by
  have HG := Lib.hid hgl
  have HLT := Lib.hid hgl.lt
  obtain ⟨n0, hn0⟩ : ∃ n, n = w.heap.size := ⟨_, rfl⟩
  obtain ⟨N, hN⟩ : ∃ N, N = zs.length := ⟨_, rfl⟩
  obtain ⟨pz, cz, rfl, hcz⟩ := hz.form
  rw [← hn0] at HLT ⊢
  rw [← hN] at hzl hcz ⊢
  have HCZ : Hid (∀ i, i < N → ∃ bz off, pz = some ⟨bz, off, none⟩ ∧ bz < n0 ∧ w.cell? ⟨bz, off + i, none⟩ = some (.int .i64 (zs.getD i 0))) := fun i hi => by
    obtain ⟨bz, off, h1, h2⟩ := hcz i hi
    exact ⟨bz, off, h1, by rw [hn0]; exact block_lt_of_cell h2, h2⟩
  have HZR := Lib.hid hzr
  have HN0 := Lib.hid hn0
  clear hgl hn0 hz hN hcz hzr
  go_enter Tryd.func6, Tryd.ntmps6
  go_wp2_with fail
  refine (openW s w).mono ?_
  rintro e w1 ⟨rfl, rfl⟩
  obtain ⟨b, hb⟩ : ∃ b, b = w.heap.size := ⟨_, rfl⟩
  obtain ⟨w1, hw1⟩ : ∃ w1, w1 = w.alloc (.cells #[.string s, .int .i64 0] 70) := ⟨_, rfl⟩
  have HC1 : Hid (IsC w1 b 70 s 0) := by unfold Hid; rw [hw1, hb]; exact IsC.new w 70 s (by omega)
  have HB1 : Hid (Below n0 w w1) := by unfold Hid; rw [hw1, HN0.out]; exact (Below.refl _ _).alloc (Nat.le_refl _) _
  have HZ1 : Hid (n0 ≤ w1.heap.size) := by unfold Hid; rw [hw1, szA, HN0.out]; omega
  have HBN : Hid (n0 ≤ b) := by unfold Hid; rw [hb, HN0.out]; exact Nat.le_refl _
  rw [← hb, ← hw1]
  clear hb hw1
  go_wp2_with fail
  refine (fixedW w1 (HG.out.below HB1.out HLT.out)).mono ?_
  rintro e w2 ⟨rfl, hb⟩
  have HC2 := Lib.hid (HC1.out.below hb HC1.out.lt)
  have HB2 := Lib.hid (HB1.out.trans (hb.mono HZ1.out))
  have HZ2 := Lib.hid (Nat.le_trans HZ1.out hb.size)
  clear hb
  have HO0 : Hid (Owns (w2.alloc (.cells #[] 5)) n0 5 (.slice (some ⟨w2.heap.size, 0, none⟩) 0 0) []) := Owns.lit (l := []) w2 _ HZ2.out (by simp [nums]) (by show 0 ≤ maxLen; decide)
  go_wp2_with fail
  go_loopw [6, 7] (fun v6 v7 wr => ∃ (k i : Nat), k ≤ s.size ∧ v7 = .int .i64 (i : Nat) ∧ i ≤ N ∧ Owns wr n0 5 v6 ((bs s).take k) ∧ IsC wr b 70 s k ∧ v6.ownBlock ≠ some b ∧ Below n0 w wr) (fun _ v7 _ => (N - intOf v7).toNat)
  case atStart =>
    refine ⟨0, 0, by omega, rfl, by omega, by simpa using HO0.out, HC2.out.below ((Below.refl _ _).alloc (Nat.le_refl _) _) HC2.out.lt, ?_, HB2.out.alloc HZ2.out _⟩
    intro e
    simp only [Value.ownBlock, Option.some.injEq] at e
    have := HC2.out.lt
    omega
  case round =>
    obtain ⟨k, i, hk, rfl, hi, hown, hcu, hne, hbe⟩ := hrel
    obtain ⟨p6, c6, rfl⟩ := hown.shape
    have hlk : ((bs s).take k).length = k := by rw [List.length_take, length_bs]; omega
    rw [hlk] at hown hne ⊢
    have HO := Lib.hid hown
    have HCU := Lib.hid hcu
    have HNE := Lib.hid hne
    have HBE := Lib.hid hbe
    have HZE : Hid (n0 ≤ wr.heap.size) := by unfold Hid; have := HBN.out; have := hcu.lt; omega
    have HLK := Lib.hid hlk
    clear hown hcu hne hbe hlk
    obtain ⟨L, hL⟩ : ∃ L : Int, (s.size : Int) - (k : Nat) = L := ⟨_, rfl⟩
    by_cases hlt : i < N
    · obtain ⟨bz, off, hpz, hbz, hcell⟩ := HCZ.out i hlt
      subst hpz
      obtain ⟨z, hzz⟩ : ∃ z, zs.getD i 0 = z := ⟨_, rfl⟩
      have hzr := HZR.out i
      rw [hzz] at hcell hzr
      have HCE := Lib.hid hcell
      have HBZ := Lib.hid hbz
      obtain ⟨r1, r2⟩ := hzr
      have HL := Lib.hid hL
      have hL0 : 0 ≤ L := by omega
      have hL1 : L ≤ 4194304 := by omega
      have hii : (i : Int) < (N : Int) := by omega
      clear hcell hbz hzz hL
      go_wp2_with fail
      refine (leftCV wr L HCU.out HL.out).mono ?_
      rintro e w3 ⟨rfl, rfl⟩
      have c3 := cell_heap (u := wr.drew) (HBE.out.cell (p := ⟨bz, off + i, none⟩) (show bz < n0 from HBZ.out) |>.trans HCE.out) rfl
      have HW := Lib.hid (withinCW wr.drew z HCU.out.drew r1 r2)
      by_cases hz : z < 0 ∨ L < z
      · have ht : took s k z = (⟨#[]⟩, if z < 0 then 16 else 15, k) := by
          unfold took
          by_cases h : z < 0
          · rw [if_pos h, if_pos h]
          · rw [if_neg h, if_pos (by have := HL.out; omega), if_neg h]
        rw [ht] at HW
        obtain ⟨er, her⟩ : ∃ er : Int, er = if z < 0 then 16 else 15 := ⟨_, rfl⟩
        rw [← her] at HW
        have her0 : ((er : Int) == 0) = false := by rw [her]; split <;> rfl
        clear ht her
        go_wp2_with fail
        refine HW.out.mono ?_
        rintro e w4 ⟨hc4, hg4, ⟨_, rfl⟩ | ⟨h0, _⟩⟩
        case inr => rw [h0] at her0; exact absurd her0 (by decide)
        have HC4 := Lib.hid hc4
        have HB4 := Lib.hid (HBE.out.drew.trans (grown_below hg4 HBN.out HZE.out))
        have HZ4 := Lib.hid (Nat.le_trans HZE.out hg4.size)
        have HO4 := Lib.hid ((HO.out.below (Below.refl _ _).drew).grown hg4 (.inr HNE.out))
        have c4 : w4.cell? ⟨bz, off + i, none⟩ = some (.int .i64 z) := (HB4.out.cell (p := ⟨bz, off + i, none⟩) (show bz < n0 from HBZ.out)).trans HCE.out
        clear hc4 hg4 c3 HW
        by_cases hz0 : z < 0
        · clear hz
          go_wp2_with fail
          refine (leftCV w4 L HC4.out HL.out).mono ?_
          rintro e w5 ⟨rfl, rfl⟩
          go_wp2_with fail
          exact ⟨⟨k, i + 1, hk, rfl, by omega, HO4.out.below (Below.refl _ _).drew, HC4.out.drew, HNE.out, HB4.out.drew⟩, by simp [intOf]; omega⟩
        · have hz1 : L < z := by rcases hz with h | h <;> omega
          clear hz
          go_wp2_with fail
          refine (leftCV w4 L HC4.out HL.out).mono ?_
          rintro e w5 ⟨rfl, rfl⟩
          go_wp2_with fail
          exact ⟨⟨k, i + 1, hk, rfl, by omega, HO4.out.below (Below.refl _ _).drew, HC4.out.drew, HNE.out, HB4.out.drew⟩, by simp [intOf]; omega⟩
      · obtain ⟨m, rfl⟩ : ∃ m : Nat, z = m := ⟨z.toNat, by omega⟩
        have hmL : (m : Int) ≤ L := by omega
        have hkm : k + m ≤ s.size := by have := HL.out; omega
        obtain ⟨t, ht⟩ : ∃ t, t = s.extract k (k + m) := ⟨_, rfl⟩
        have htk : took s k (m : Int) = (t, 0, k + m) := by
          unfold took
          rw [if_neg (by omega), if_neg (by have := HL.out; omega), Int.toNat_natCast, ht]
        have hts : t.size = m := by rw [ht, ByteArray.size_extract]; omega
        have HBT : Hid (bs t = ((bs s).drop k).take m) := by unfold Hid; rw [ht, bs_extract, Nat.add_sub_cancel_left]
        have HTS := Lib.hid hts
        rw [htk] at HW
        have hm4 : m ≤ 4194304 := by omega
        clear htk ht hts hz
        go_wp2_with fail
        refine HW.out.mono ?_
        rintro e w4 ⟨hc4, hg4, ⟨h0, _⟩ | ⟨_, d, hd, rfl, hcd⟩⟩
        · exact absurd rfl h0
        have HC4 := Lib.hid hc4
        have HD4 := Lib.hid hcd
        have HDB : Hid (n0 ≤ d ∧ d ≠ b ∧ (Value.slice p6 k c6).ownBlock ≠ some d) := by
          have h1 := HCU.out.lt
          have hd' : wr.heap.size ≤ d := hd
          refine ⟨by have := HZE.out; omega, by omega, fun e => ?_⟩
          have := (HO.out.block e).2
          omega
        have HB4 := Lib.hid (HBE.out.drew.trans (grown_below hg4 HBN.out HZE.out))
        have HZ4 := Lib.hid (Nat.le_trans HZE.out hg4.size)
        have HO4 := Lib.hid ((HO.out.below (Below.refl _ _).drew).grown hg4 (.inr HNE.out))
        have c4 : w4.cell? ⟨bz, off + i, none⟩ = some (.int .i64 (m : Int)) := (HB4.out.cell (p := ⟨bz, off + i, none⟩) (show bz < n0 from HBZ.out)).trans HCE.out
        have HX4 := Lib.hid c4
        clear hc4 hg4 c3 HW hd hcd
        obtain ⟨L2, hL2⟩ : ∃ L2 : Int, L - (m : Int) = L2 := ⟨_, rfl⟩
        have HL2 := Lib.hid hL2
        have k1 : IntKind.i64.wrap L2 = L2 := IntWalk.i64_in _ (by omega)
        go_wp2_with fail
        refine wp_region_U 25 (fun u => u.heap = w4.heap) (by kernel_rfl) ?_
        change wpAnyU _ _ _ _ _ _ 26 (Array.replicate 26 false) _ _
        refine takeU 0 (v := ?_) rfl (by kernel_rfl) (by kernel_rfl) (fun _ _ _ h => h) rfl (fun u hu => ?_) rfl ?_
        rotate_left
        · skip; go_simp <;> with_reducible rfl
        simp only [Act.put, List.setIfInBounds_toArray, List.set_cons_zero, List.set_cons_succ]
        refine takeU 1 (v := ?_) rfl (by kernel_rfl) (by kernel_rfl) (fun _ _ _ h => h) rfl (fun u hu => ?_) rfl ?_
        rotate_left
        · skip; go_simp <;> with_reducible rfl
        simp only [Act.put, List.setIfInBounds_toArray, List.set_cons_zero, List.set_cons_succ]
        refine takeU 2 (v := ?_) rfl (by kernel_rfl) (by kernel_rfl) (fun _ _ _ h => h) rfl (fun u hu => ?_) rfl ?_
        rotate_left
        · skip; go_simp <;> with_reducible rfl
        simp only [Act.put, List.setIfInBounds_toArray, List.set_cons_zero, List.set_cons_succ]
        refine takeU 3 (v := ?_) rfl (by kernel_rfl) (by kernel_rfl) (fun _ _ _ h => h) rfl (fun u hu => ?_) rfl ?_
        rotate_left
        · skip; go_simp <;> with_reducible rfl
        simp only [Act.put, List.setIfInBounds_toArray, List.set_cons_zero, List.set_cons_succ]
        refine takeU 4 (v := ?_) rfl (by kernel_rfl) (by kernel_rfl) (fun _ _ _ h => h) rfl (fun u hu => ?_) rfl ?_
        rotate_left
        · skip; go_simp <;> with_reducible rfl
        simp only [Act.put, List.setIfInBounds_toArray, List.set_cons_zero, List.set_cons_succ]
        refine takeU 5 (v := ?_) rfl (by kernel_rfl) (by kernel_rfl) (fun _ _ _ h => h) rfl (fun u hu => ?_) rfl ?_
        rotate_left
        · skip; go_simp <;> with_reducible rfl
        simp only [Act.put, List.setIfInBounds_toArray, List.set_cons_zero, List.set_cons_succ]
        refine takeU 6 (v := ?_) rfl (by kernel_rfl) (by kernel_rfl) (fun _ _ _ h => h) rfl (fun u hu => ?_) rfl ?_
        rotate_left
        · skip; go_simp <;> with_reducible rfl
        simp only [Act.put, List.setIfInBounds_toArray, List.set_cons_zero, List.set_cons_succ]
        refine takeU 7 (v := ?_) rfl (by kernel_rfl) (by kernel_rfl) (fun _ _ _ h => h) rfl (fun u hu => ?_) rfl ?_
        rotate_left
        · skip; go_simp <;> with_reducible rfl
        simp only [Act.put, List.setIfInBounds_toArray, List.set_cons_zero, List.set_cons_succ]
        refine takeU 9 (v := ?_) rfl (by kernel_rfl) (by kernel_rfl) (fun _ _ _ h => h) rfl (fun u hu => ?_) rfl ?_
        rotate_left
        · skip; go_simp <;> with_reducible rfl
        simp only [Act.put, List.setIfInBounds_toArray, List.set_cons_zero, List.set_cons_succ]
        refine takeU 10 (v := ?_) rfl (by kernel_rfl) (by kernel_rfl) (fun _ _ _ h => h) rfl (fun u hu => ?_) rfl ?_
        rotate_left
        · skip; go_simp <;> with_reducible rfl
        simp only [Act.put, List.setIfInBounds_toArray, List.set_cons_zero, List.set_cons_succ]
        refine takeU 11 (v := ?_) rfl (by kernel_rfl) (by kernel_rfl) (fun _ _ _ h => h) rfl (fun u hu => ?_) rfl ?_
        rotate_left
        · skip; go_simp <;> with_reducible rfl
        simp only [Act.put, List.setIfInBounds_toArray, List.set_cons_zero, List.set_cons_succ]
        refine takeU 12 (v := ?_) rfl (by kernel_rfl) (by kernel_rfl) (fun _ _ _ h => h) rfl (fun u hu => ?_) rfl ?_
        rotate_left
        · have k0 := cell_heap HX4.out hu; go_simp <;> with_reducible rfl
        simp only [Act.put, List.setIfInBounds_toArray, List.set_cons_zero, List.set_cons_succ]
        refine oneU 8 (by kernel_rfl) ?_
        refine callU 8 rfl (by kernel_rfl) rfl 21 _ _ rfl #[.pointer (some ⟨d, 0, none⟩)] (by simp [Act.eval]) (enters_of Tryd.func21 (by kernel_rfl) rfl) (fun v u => v = .int .i64 (m : Int) ∧ u = w4.drew.drew) ((leftCV w4.drew (m : Int) HD4.out.drew (by have := HTS.out; omega)).mono (fun e u h => ⟨_, h.1, rfl, h.2⟩)) ?_
        rintro v u ⟨rfl, rfl⟩
        refine ⟨rfl, ?_⟩
        simp only [Act.put, List.setIfInBounds_toArray, List.set_cons_zero, List.set_cons_succ]
        refine takeU 13 (v := ?_) rfl (by kernel_rfl) (by kernel_rfl) (fun _ _ _ h => h) rfl (fun u hu => ?_) rfl ?_
        rotate_left
        · skip; go_simp <;> with_reducible rfl
        simp only [Act.put, List.setIfInBounds_toArray, List.set_cons_zero, List.set_cons_succ]
        refine takeU 14 (v := ?_) rfl (by kernel_rfl) (by kernel_rfl) (fun _ _ _ h => h) rfl (fun u hu => ?_) rfl ?_
        rotate_left
        · skip; go_simp <;> with_reducible rfl
        simp only [Act.put, List.setIfInBounds_toArray, List.set_cons_zero, List.set_cons_succ]
        refine takeU 15 (v := ?_) rfl (by kernel_rfl) (by kernel_rfl) (fun _ _ _ h => h) rfl (fun u hu => ?_) rfl ?_
        rotate_left
        · skip; go_simp <;> with_reducible rfl
        simp only [Act.put, List.setIfInBounds_toArray, List.set_cons_zero, List.set_cons_succ]
        refine takeU 16 (v := ?_) rfl (by kernel_rfl) (by kernel_rfl) (fun _ _ _ h => h) rfl (fun u hu => ?_) rfl ?_
        rotate_left
        · skip; go_simp <;> with_reducible rfl
        simp only [Act.put, List.setIfInBounds_toArray, List.set_cons_zero, List.set_cons_succ]
        refine takeU 18 (v := ?_) rfl (by kernel_rfl) (by kernel_rfl) (fun _ _ _ h => h) rfl (fun u hu => ?_) rfl ?_
        rotate_left
        · skip; go_simp <;> with_reducible rfl
        simp only [Act.put, List.setIfInBounds_toArray, List.set_cons_zero, List.set_cons_succ]
        refine takeU 19 (v := ?_) rfl (by kernel_rfl) (by kernel_rfl) (fun _ _ _ h => h) rfl (fun u hu => ?_) rfl ?_
        rotate_left
        · skip; go_simp <;> with_reducible rfl
        simp only [Act.put, List.setIfInBounds_toArray, List.set_cons_zero, List.set_cons_succ]
        refine takeU 20 (v := ?_) rfl (by kernel_rfl) (by kernel_rfl) (fun _ _ _ h => h) rfl (fun u hu => ?_) rfl ?_
        rotate_left
        · skip; go_simp <;> with_reducible rfl
        simp only [Act.put, List.setIfInBounds_toArray, List.set_cons_zero, List.set_cons_succ]
        refine takeU 21 (v := ?_) rfl (by kernel_rfl) (by kernel_rfl) (fun _ _ _ h => h) rfl (fun u hu => ?_) rfl ?_
        rotate_left
        · skip; go_simp <;> with_reducible rfl
        simp only [Act.put, List.setIfInBounds_toArray, List.set_cons_zero, List.set_cons_succ]
        refine takeU 22 (v := ?_) rfl (by kernel_rfl) (by kernel_rfl) (fun _ _ _ h => h) rfl (fun u hu => ?_) rfl ?_
        rotate_left
        · have k0 := cell_heap HX4.out hu; go_simp <;> with_reducible rfl
        simp only [Act.put, List.setIfInBounds_toArray, List.set_cons_zero, List.set_cons_succ]
        refine takeU 23 (v := ?_) rfl (by kernel_rfl) (by kernel_rfl) (fun _ _ _ h => h) rfl (fun u hu => ?_) rfl ?_
        rotate_left
        · skip; go_simp <;> with_reducible rfl
        simp only [Act.put, List.setIfInBounds_toArray, List.set_cons_zero, List.set_cons_succ]
        refine oneU 17 (by kernel_rfl) ?_
        refine callU 17 rfl (by kernel_rfl) rfl 21 _ _ rfl #[.pointer (some ⟨b, 0, none⟩)] (by simp [Act.eval]) (enters_of Tryd.func21 (by kernel_rfl) rfl) (fun v u => v = .int .i64 L2 ∧ u = w4.drew.drew.drew) ((leftCV w4.drew.drew L2 HC4.out.drew.drew (by have := HL.out; have := HL2.out; omega)).mono (fun e u h => ⟨_, h.1, rfl, h.2⟩)) ?_
        rintro v u ⟨rfl, rfl⟩
        refine ⟨rfl, ?_⟩
        simp only [Act.put, List.setIfInBounds_toArray, List.set_cons_zero, List.set_cons_succ]
        refine takeU 24 (v := ?_) rfl (by kernel_rfl) (by kernel_rfl) (fun _ _ _ h => h) rfl (fun u hu => ?_) rfl ?_
        rotate_left
        · skip; go_simp <;> with_reducible rfl
        simp only [Act.put, List.setIfInBounds_toArray, List.set_cons_zero, List.set_cons_succ]
        refine oneU 25 (by kernel_rfl) ?_
        refine endU (v := ?_) 25 rfl (by kernel_rfl) (by kernel_rfl) rfl ?_ ?_
        rotate_left
        · go_simp <;> with_reducible rfl
        simp only [Act.put, List.setIfInBounds_toArray, List.set_cons_zero, List.set_cons_succ]
        clear k1 hL2 c4
        obtain ⟨w5, hw5⟩ : ∃ w5, w5 = w4.drew.drew.drew := ⟨_, rfl⟩
        have HC5 : Hid (IsC w5 b 70 s (k + m)) := by unfold Hid; rw [hw5]; exact HC4.out.drew.drew.drew
        have HD5 : Hid (IsC w5 d 70 t 0) := by unfold Hid; rw [hw5]; exact HD4.out.drew.drew.drew
        have HB5 : Hid (Below n0 w w5) := by unfold Hid; rw [hw5]; exact HB4.out.drew.drew.drew
        have HZ5 : Hid (n0 ≤ w5.heap.size) := by unfold Hid; rw [hw5]; exact HZ4.out
        have HO5 : Hid (Owns w5 n0 5 (.slice p6 k c6) ((bs s).take k)) := by unfold Hid; rw [hw5]; exact HO4.out.below ((Below.refl _ _).drew.drew.drew)
        have c5 : w5.cell? ⟨bz, off + i, none⟩ = some (.int .i64 (m : Int)) := by rw [hw5]; exact HX4.out
        rw [← hw5]
        clear hw5 HC4 HD4 HB4 HZ4 HO4 HX4
        go_wp2_with fail
        have hT := takeCW w5 ((m : Int) + 1) HD5.out (by omega) (by omega)
        have htk : took t 0 ((m : Int) + 1) = (⟨#[]⟩, 15, 0) := by
          unfold took
          rw [if_neg (by omega), if_pos (by have := HTS.out; omega)]
        rw [htk] at hT
        refine hT.mono ?_
        rintro e w6 ⟨rfl, hc6, hg6⟩
        have HD6 := Lib.hid hc6
        have HC6 := Lib.hid (HC5.out.same (hg6.block b HC5.out.lt (fun e => by injection e with e; exact HDB.out.2.1 e.symm)))
        have HB6 := Lib.hid (HB5.out.trans (grown_below hg6 HDB.out.1 HZ5.out))
        have HZ6 := Lib.hid (Nat.le_trans HZ5.out hg6.size)
        have HO6 := Lib.hid (HO5.out.grown hg6 (.inr HDB.out.2.2))
        have c6' : w6.cell? ⟨bz, off + i, none⟩ = some (.int .i64 (m : Int)) := (HB6.out.cell (p := ⟨bz, off + i, none⟩) (show bz < n0 from HBZ.out)).trans HCE.out
        clear hT htk hc6 hg6 c5
        go_wp2_with fail
        clear c6'
        go_loopw [6] (fun v6 wr => ∃ j : Nat, j ≤ m ∧ Owns wr n0 5 v6 ((bs s).take (k + j)) ∧ IsC wr d 70 t j ∧ IsC wr b 70 s (k + m) ∧ v6.ownBlock ≠ some b ∧ v6.ownBlock ≠ some d ∧ Below n0 w wr) (fun v6 _ => (k + m - lenOf v6))
        case atStart => exact ⟨0, by omega, HO6.out, HD6.out, HC6.out, HNE.out, HDB.out.2.2, HB6.out⟩
        case round =>
          obtain ⟨j, hj, hown, hcd, hcu, hne, hnd, hbe⟩ := hrel
          obtain ⟨p7, c7, rfl⟩ := hown.shape
          have hlj : ((bs s).take (k + j)).length = k + j := by rw [List.length_take, length_bs]; omega
          rw [hlj] at hown hne hnd ⊢
          have HO7 := Lib.hid hown
          have HC7 := Lib.hid hcu
          have HD7 := Lib.hid hcd
          have HNE7 := Lib.hid hne
          have HND7 := Lib.hid hnd
          have HB7 := Lib.hid hbe
          have HZ7 : Hid (n0 ≤ wr.heap.size) := by unfold Hid; have := HBN.out; have := hcu.lt; omega
          have HLJ := Lib.hid hlj
          have HX7 : Hid (wr.cell? ⟨bz, off + i, none⟩ = some (.int .i64 (m : Int))) := (hbe.cell (p := ⟨bz, off + i, none⟩) (show bz < n0 from HBZ.out)).trans HCE.out
          clear hown hcu hcd hne hnd hbe hlj
          by_cases hjm : j < m
          · go_wp2_with fail
            refine wp_region_U 6 (fun u => u.heap = wr.heap) (by kernel_rfl) ?_
            change wpAnyU _ _ _ _ _ _ 7 (Array.replicate 7 false) _ _
            refine takeU 0 (v := ?_) rfl (by kernel_rfl) (by kernel_rfl) (fun _ _ _ h => h) rfl (fun u hu => ?_) rfl ?_
            rotate_left
            · skip; go_simp <;> with_reducible rfl
            simp only [Act.put, List.setIfInBounds_toArray, List.set_cons_zero, List.set_cons_succ]
            refine takeU 2 (v := ?_) rfl (by kernel_rfl) (by kernel_rfl) (fun _ _ _ h => h) rfl (fun u hu => ?_) rfl ?_
            rotate_left
            · skip; go_simp <;> with_reducible rfl
            simp only [Act.put, List.setIfInBounds_toArray, List.set_cons_zero, List.set_cons_succ]
            refine takeU 3 (v := ?_) rfl (by kernel_rfl) (by kernel_rfl) (fun _ _ _ h => h) rfl (fun u hu => ?_) rfl ?_
            rotate_left
            · skip; go_simp <;> with_reducible rfl
            simp only [Act.put, List.setIfInBounds_toArray, List.set_cons_zero, List.set_cons_succ]
            refine takeU 4 (v := ?_) rfl (by kernel_rfl) (by kernel_rfl) (fun _ _ _ h => h) rfl (fun u hu => ?_) rfl ?_
            rotate_left
            · skip; go_simp <;> with_reducible rfl
            simp only [Act.put, List.setIfInBounds_toArray, List.set_cons_zero, List.set_cons_succ]
            refine takeU 5 (v := ?_) rfl (by kernel_rfl) (by kernel_rfl) (fun _ _ _ h => h) rfl (fun u hu => ?_) rfl ?_
            rotate_left
            · have k0 := cell_heap HX7.out hu; go_simp <;> with_reducible rfl
            simp only [Act.put, List.setIfInBounds_toArray, List.set_cons_zero, List.set_cons_succ]
            refine oneU 1 (by kernel_rfl) ?_
            refine callU 1 rfl (by kernel_rfl) rfl 24 _ _ rfl #[.pointer (some ⟨d, 0, none⟩)] (by simp [Act.eval]) (enters_of Tryd.func24 (by kernel_rfl) rfl) (fun v u => v = .int .i64 (j : Int) ∧ u = wr.drew) ((atCV wr.drew (j : Int) HD7.out.drew rfl).mono (fun e u h => ⟨_, h.1, rfl, h.2⟩)) ?_
            rintro v u ⟨rfl, rfl⟩
            refine ⟨rfl, ?_⟩
            simp only [Act.put, List.setIfInBounds_toArray, List.set_cons_zero, List.set_cons_succ]
            refine oneU 6 (by kernel_rfl) ?_
            refine endU (v := ?_) 6 rfl (by kernel_rfl) (by kernel_rfl) rfl ?_ ?_
            rotate_left
            · go_simp <;> with_reducible rfl
            simp only [Act.put, List.setIfInBounds_toArray, List.set_cons_zero, List.set_cons_succ]
            have hjt : j < t.size := by rw [HTS.out]; exact hjm
            go_wp2_with fail
            refine (byteCW wr.drew HD7.out.drew).mono ?_
            rintro e w8 (⟨hlt8, rfl, hc8, hg8⟩ | ⟨hge8, rfl, hc8, hg8⟩)
            case inr => exact absurd hge8 (by omega)
            obtain ⟨x, hx⟩ : ∃ x, (bs t).getD j 0 = x := ⟨_, rfl⟩
            have HXS : Hid ((bs s).getD (k + j) 0 = x) := by
              unfold Hid
              rw [← hx, HBT.out, List.getD_eq_getElem?_getD, List.getD_eq_getElem?_getD, List.getElem?_take, if_pos hjm, List.getElem?_drop]
            rw [hx]
            have HD8 := Lib.hid hc8
            have HC8 := Lib.hid (HC7.out.drew.same (hg8.block b HC7.out.lt (fun e => by injection e with e; exact HDB.out.2.1 e.symm)))
            have HB8 := Lib.hid (HB7.out.drew.trans (grown_below hg8 HDB.out.1 HZ7.out))
            have HZ8 := Lib.hid (Nat.le_trans HZ7.out hg8.size)
            have HO8 := Lib.hid ((HO7.out.below (Below.refl _ _).drew).grown hg8 (.inr HND7.out))
            have HO8a := Lib.hid (HO8.out.alloc (.cells #[.int .u8 (x : Int)] 5))
            clear hc8 hg8 hlt8 hx hjt
            go_wp2_with (at_builtin; refine wpList_append_bytes rfl (.tmp 127) (.tmp 129) 36 rfl Tryd.underlying36 infoU8 rfl HO8a.out ⟨w8.heap.size, 0, none⟩ 1 1 [x] rfl rfl ?n2 ?n3 ?n4 ?_)
            case n2 => intro j hj; obtain rfl : j = 0 := (by omega); simp [Addr.add]
            case n3 => rw [HLJ.out]; omega
            case n4 => have := HZ8.out; simp; omega
            intro v9 w9 ho9 hg9 hv9
            have hl9 : ((bs s).take (k + j) ++ [x]) = (bs s).take (k + (j + 1)) := by
              rw [show k + (j + 1) = k + j + 1 by omega, take_succ_lt (bs s) (k + j) (by rw [length_bs]; omega) 0, HXS.out]
            rw [hl9] at ho9
            have hl9' : ((bs s).take (k + (j + 1))).length = k + (j + 1) := by rw [List.length_take, length_bs]; omega
            obtain ⟨p9, c9, rfl⟩ := ho9.shape
            rw [hl9'] at ho9 hv9 ⊢
            have HO9 := Lib.hid ho9
            have HC9 := Lib.hid ((HC8.out.below ((Below.refl _ _).alloc (Nat.le_refl _) (.cells #[.int .u8 (x : Int)] 5)) HC8.out.lt).same (hg9.block b (by have := HC8.out.lt; simp; omega) (fun e => HNE7.out e.symm)))
            have HD9 := Lib.hid ((HD8.out.below ((Below.refl _ _).alloc (Nat.le_refl _) (.cells #[.int .u8 (x : Int)] 5)) HD8.out.lt).same (hg9.block d (by have := HD8.out.lt; simp; omega) (fun e => HND7.out e.symm)))
            have HB9 := Lib.hid ((HB8.out.alloc HZ8.out (.cells #[.int .u8 (x : Int)] 5)).grown hg9 (by have := HZ8.out; simp; omega) (fun x hx => (HO8.out.block hx).1))
            have HN9 : Hid ((Value.slice p9 (k + (j + 1)) c9).ownBlock ≠ some b ∧ (Value.slice p9 (k + (j + 1)) c9).ownBlock ≠ some d) := by
              rcases hv9 with h | h
              · exact ⟨fun e => by rw [e] at h; exact HNE7.out h.symm, fun e => by rw [e] at h; exact HND7.out h.symm⟩
              · exact ⟨fun e => by rw [e] at h; injection h with h; have := HC8.out.lt; omega, fun e => by rw [e] at h; injection h with h; have := HD8.out.lt; omega⟩
            clear ho9 hg9 hv9 hl9 hl9'
            go_wp2_with fail
            exact ⟨⟨j + 1, by omega, HO9.out, HD9.out, HC9.out, HN9.out.1, HN9.out.2, HB9.out⟩, by simp [lenOf]; omega⟩
          · have hje : j = m := by omega
            subst hje
            go_wp2_with fail
            refine wp_region_U 6 (fun u => u.heap = wr.heap) (by kernel_rfl) ?_
            change wpAnyU _ _ _ _ _ _ 7 (Array.replicate 7 false) _ _
            refine takeU 0 (v := ?_) rfl (by kernel_rfl) (by kernel_rfl) (fun _ _ _ h => h) rfl (fun u hu => ?_) rfl ?_
            rotate_left
            · skip; go_simp <;> with_reducible rfl
            simp only [Act.put, List.setIfInBounds_toArray, List.set_cons_zero, List.set_cons_succ]
            refine takeU 2 (v := ?_) rfl (by kernel_rfl) (by kernel_rfl) (fun _ _ _ h => h) rfl (fun u hu => ?_) rfl ?_
            rotate_left
            · skip; go_simp <;> with_reducible rfl
            simp only [Act.put, List.setIfInBounds_toArray, List.set_cons_zero, List.set_cons_succ]
            refine takeU 3 (v := ?_) rfl (by kernel_rfl) (by kernel_rfl) (fun _ _ _ h => h) rfl (fun u hu => ?_) rfl ?_
            rotate_left
            · skip; go_simp <;> with_reducible rfl
            simp only [Act.put, List.setIfInBounds_toArray, List.set_cons_zero, List.set_cons_succ]
            refine takeU 4 (v := ?_) rfl (by kernel_rfl) (by kernel_rfl) (fun _ _ _ h => h) rfl (fun u hu => ?_) rfl ?_
            rotate_left
            · skip; go_simp <;> with_reducible rfl
            simp only [Act.put, List.setIfInBounds_toArray, List.set_cons_zero, List.set_cons_succ]
            refine takeU 5 (v := ?_) rfl (by kernel_rfl) (by kernel_rfl) (fun _ _ _ h => h) rfl (fun u hu => ?_) rfl ?_
            rotate_left
            · have k0 := cell_heap HX7.out hu; go_simp <;> with_reducible rfl
            simp only [Act.put, List.setIfInBounds_toArray, List.set_cons_zero, List.set_cons_succ]
            refine oneU 1 (by kernel_rfl) ?_
            refine callU 1 rfl (by kernel_rfl) rfl 24 _ _ rfl #[.pointer (some ⟨d, 0, none⟩)] (by simp [Act.eval]) (enters_of Tryd.func24 (by kernel_rfl) rfl) (fun v u => v = .int .i64 (j : Int) ∧ u = wr.drew) ((atCV wr.drew (j : Int) HD7.out.drew rfl).mono (fun e u h => ⟨_, h.1, rfl, h.2⟩)) ?_
            rintro v u ⟨rfl, rfl⟩
            refine ⟨rfl, ?_⟩
            simp only [Act.put, List.setIfInBounds_toArray, List.set_cons_zero, List.set_cons_succ]
            refine oneU 6 (by kernel_rfl) ?_
            refine endU (v := ?_) 6 rfl (by kernel_rfl) (by kernel_rfl) rfl ?_ ?_
            rotate_left
            · go_simp <;> with_reducible rfl
            simp only [Act.put, List.setIfInBounds_toArray, List.set_cons_zero, List.set_cons_succ]
            go_wp2_with fail
            refine (byteCW wr.drew HD7.out.drew).mono ?_
            rintro e w8 (⟨hlt8, rfl, hc8, hg8⟩ | ⟨hge8, rfl, hc8, hg8⟩)
            case inl => exact absurd hlt8 (by have := HTS.out; omega)
            have HD8 := Lib.hid hc8
            have HC8 := Lib.hid (HC7.out.drew.same (hg8.block b HC7.out.lt (fun e => by injection e with e; exact HDB.out.2.1 e.symm)))
            have HB8 := Lib.hid (HB7.out.drew.trans (grown_below hg8 HDB.out.1 HZ7.out))
            have HO8 := Lib.hid ((HO7.out.below (Below.refl _ _).drew).grown hg8 (.inr HND7.out))
            have HX8 : Hid (w8.cell? ⟨bz, off + i, none⟩ = some (.int .i64 (j : Int))) := (HB8.out.cell (p := ⟨bz, off + i, none⟩) (show bz < n0 from HBZ.out)).trans HCE.out
            clear hc8 hg8 hge8
            go_wp2_with fail
            refine wp_region_U 10 (fun u => u.heap = w8.heap) (by kernel_rfl) ?_
            change wpAnyU _ _ _ _ _ _ 11 (Array.replicate 11 false) _ _
            refine takeU 0 (v := ?_) rfl (by kernel_rfl) (by kernel_rfl) (fun _ _ _ h => h) rfl (fun u hu => ?_) rfl ?_
            rotate_left
            · skip; go_simp <;> with_reducible rfl
            simp only [Act.put, List.setIfInBounds_toArray, List.set_cons_zero, List.set_cons_succ]
            refine takeU 1 (v := ?_) rfl (by kernel_rfl) (by kernel_rfl) (fun _ _ _ h => h) rfl (fun u hu => ?_) rfl ?_
            rotate_left
            · skip; go_simp <;> with_reducible rfl
            simp only [Act.put, List.setIfInBounds_toArray, List.set_cons_zero, List.set_cons_succ]
            refine takeU 2 (v := ?_) rfl (by kernel_rfl) (by kernel_rfl) (fun _ _ _ h => h) rfl (fun u hu => ?_) rfl ?_
            rotate_left
            · skip; go_simp <;> with_reducible rfl
            simp only [Act.put, List.setIfInBounds_toArray, List.set_cons_zero, List.set_cons_succ]
            refine takeU 3 (v := ?_) rfl (by kernel_rfl) (by kernel_rfl) (fun _ _ _ h => h) rfl (fun u hu => ?_) rfl ?_
            rotate_left
            · skip; go_simp <;> with_reducible rfl
            simp only [Act.put, List.setIfInBounds_toArray, List.set_cons_zero, List.set_cons_succ]
            refine takeU 5 (v := ?_) rfl (by kernel_rfl) (by kernel_rfl) (fun _ _ _ h => h) rfl (fun u hu => ?_) rfl ?_
            rotate_left
            · skip; go_simp <;> with_reducible rfl
            simp only [Act.put, List.setIfInBounds_toArray, List.set_cons_zero, List.set_cons_succ]
            refine takeU 6 (v := ?_) rfl (by kernel_rfl) (by kernel_rfl) (fun _ _ _ h => h) rfl (fun u hu => ?_) rfl ?_
            rotate_left
            · skip; go_simp <;> with_reducible rfl
            simp only [Act.put, List.setIfInBounds_toArray, List.set_cons_zero, List.set_cons_succ]
            refine takeU 7 (v := ?_) rfl (by kernel_rfl) (by kernel_rfl) (fun _ _ _ h => h) rfl (fun u hu => ?_) rfl ?_
            rotate_left
            · skip; go_simp <;> with_reducible rfl
            simp only [Act.put, List.setIfInBounds_toArray, List.set_cons_zero, List.set_cons_succ]
            refine takeU 8 (v := ?_) rfl (by kernel_rfl) (by kernel_rfl) (fun _ _ _ h => h) rfl (fun u hu => ?_) rfl ?_
            rotate_left
            · have k0 := cell_heap HX8.out hu; go_simp <;> with_reducible rfl
            simp only [Act.put, List.setIfInBounds_toArray, List.set_cons_zero, List.set_cons_succ]
            refine oneU 4 (by kernel_rfl) ?_
            refine callU 4 rfl (by kernel_rfl) rfl 24 _ _ rfl #[.pointer (some ⟨d, 0, none⟩)] (by simp [Act.eval]) (enters_of Tryd.func24 (by kernel_rfl) rfl) (fun v u => v = .int .i64 (j : Int) ∧ u = w8.drew) ((atCV w8.drew (j : Int) HD8.out.drew rfl).mono (fun e u h => ⟨_, h.1, rfl, h.2⟩)) ?_
            rintro v u ⟨rfl, rfl⟩
            refine ⟨rfl, ?_⟩
            simp only [Act.put, List.setIfInBounds_toArray, List.set_cons_zero, List.set_cons_succ]
            refine takeU 9 (v := ?_) rfl (by kernel_rfl) (by kernel_rfl) (fun _ _ _ h => h) rfl (fun u hu => ?_) rfl ?_
            rotate_left
            · skip; go_simp <;> with_reducible rfl
            simp only [Act.put, List.setIfInBounds_toArray, List.set_cons_zero, List.set_cons_succ]
            refine oneU 10 (by kernel_rfl) ?_
            refine endU (v := ?_) 10 rfl (by kernel_rfl) (by kernel_rfl) rfl ?_ ?_
            rotate_left
            · go_simp <;> with_reducible rfl
            simp only [Act.put, List.setIfInBounds_toArray, List.set_cons_zero, List.set_cons_succ]
            go_wp2_with fail
            exact ⟨⟨k + j, i + 1, hkm, rfl, by omega, HO8.out.below (Below.refl _ _).drew, HC8.out.drew, HNE7.out, HB8.out.drew⟩, by simp [intOf]; omega⟩
    · have HL := Lib.hid hL
      clear hL
      go_wp2_with fail
      refine (leftCV wr L HCU.out HL.out).mono ?_
      rintro e w4 ⟨rfl, rfl⟩
      go_wp2_with fail
      have hT := takeCW wr.drew L HCU.out.drew (by have := HL.out; omega) (by have := HL.out; omega)
      have htk : took s k L = (s.extract k s.size, 0, s.size) := by
        have := HL.out
        unfold took
        rw [if_neg (by omega), if_neg (by omega), show L.toNat = s.size - k by omega, show k + (s.size - k) = s.size by omega]
      rw [htk] at hT
      refine hT.mono ?_
      rintro e w5 ⟨rfl, hc5, hg5⟩
      have HC5 := Lib.hid hc5
      have HB5 := Lib.hid (HBE.out.drew.trans (grown_below hg5 HBN.out HZE.out))
      have HO5 := Lib.hid ((HO.out.below (Below.refl _ _).drew).grown hg5 (.inr HNE.out))
      have hall : strOf ((bs s).take k) ++ s.extract k s.size = s := by
        apply bs_inj
        rw [bs_append, bs_strOf _ (fun x hx => bs_lt s x (List.mem_of_mem_take hx)), bs_from, List.take_append_drop]
      have heq : ((strOf ((bs s).take k) ++ s.extract k s.size).toList == s.toList) = true := by rw [hall]; exact beq_self_eq_true _
      clear hT htk hc5 hg5
      have HALL := Lib.hid hall
      have hz1 : (strOf ((bs s).take k)).size ≤ 4194304 := by rw [size_strOf, List.length_take, length_bs]; omega
      have hz2 : (s.extract k s.size).size ≤ 4194304 := by rw [ByteArray.size_extract]; omega
      clear hall
      go_wp2_with (refine wpList_owned_string_w (by rfl) 36 9 (.tmp 157) (by rfl) Tryd.underlying36 Tryd.underlying5 Tryd.underlying9 (by rfl) HO5.out ?_)
      refine (leftCV w5 0 HC5.out (by omega)).mono ?_
      rintro e w6 ⟨rfl, rfl⟩
      go_wp2_with fail
      go_ret
      exact ⟨rfl, HB5.out.drew⟩
end Go.Proofs.YthdoeaiehajofaaDoor
