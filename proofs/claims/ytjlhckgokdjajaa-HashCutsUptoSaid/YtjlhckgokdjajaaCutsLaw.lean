/- The walk of HashCuts. -/
import Derived.Test.YtjlhckgokdjajaaDuo
import Derived.Test.YtjlhckgokdjajaaFixed
import Derived.Deep.DeepCutAuto
namespace Go.Proofs.Ytjlhckgokdjajaa
open Go.RowKit
theorem bs_cut (s : ByteArray) (f n : Nat) (hf : f ≤ n) : (bs s).take f ++ bs (s.extract f n) = (bs s).take n := by
  rw [bs_extract]
  have h : (bs s).take n = ((bs s).take f) ++ ((bs s).drop f).take (n - f) := by
    rw [← List.take_add]; congr 1; omega
  exact h.symm
theorem bs_cut_end (s : ByteArray) (f : Nat) : (bs s).take f ++ bs (s.extract f s.size) = bs s := by
  rw [bs_from, List.take_append_drop]
set_option maxRecDepth 100000 in
set_option maxHeartbeats 400000 in
theorem cutsNo (k : Int) (h0 : k ≠ 0) (h1 : k ≠ 1) (s : ByteArray) (vc vm : Value) (w : World) :
    Calls Try.prog 6 #[.int .i64 k, .string s, .agg #[vc, vm]] w fun e w' => e = .returned (.bool true) ∧ Below w.heap.size w w' := by
  have H0 := Lib.hid h0
  have H1 := Lib.hid h1
  clear h0 h1
  go_enter Try.func6, Try.ntmps6
  go_wp2_with fail
  refine (newNo k H0.out H1.out _).mono ?_
  rintro e w2 ⟨rfl, rfl⟩
  go_wp2_with fail
  refine (newNo k H0.out H1.out _).mono ?_
  rintro e w2 ⟨rfl, rfl⟩
  go_wp2_with fail
  refine (fixedW _).mono ?_
  rintro e w1 ⟨rfl, hb1⟩
  have HB1 : Hid (Below w.heap.size w w1) := ((Below.refl _ _).alloc (Nat.le_refl _) _).trans (hb1.mono (by simp))
  clear hb1
  have h0 : (k != 0) = true := by simpa using H0.out
  have h1 : (k != 1) = true := by simpa using H1.out
  go_wp2_with fail
  go_ret
  exact ⟨rfl, HB1.out⟩
set_option maxRecDepth 100000 in
set_option maxHeartbeats 800000 in
theorem cutsK (k : Nat) (hk : k < 2) (s : ByteArray) (vc vm : Value) (zs : List Int) (ss : List ByteArray) (w : World) (hs : s.size ≤ 140737488355328) (hzs : Ints w vc zs) (hzl : zs.length ≤ 140737488355328)
    (hl : Strs w vm ss) (hss : (cat ss).length ≤ 140737488355328) (hn : ss.length ≤ 140737488355328) :
    Calls Try.prog 6 #[.int .i64 (k : Nat), .string s, .agg #[vc, vm]] w fun e w' => e = .returned (.bool true) ∧ Below w.heap.size w w' := by
  have HS := Lib.hid hs
  have HSS := Lib.hid hss
  have HK := Lib.hid hk
  obtain ⟨pl, cl, rfl, hcl⟩ := hl.form
  obtain ⟨pz, cz, rfl, hcz⟩ := hzs.form
  have HCL := Lib.hid hcl
  have HCZ := Lib.hid hcz
  clear hss hl hcl hcz hzs
  obtain ⟨W1, hW1⟩ : ∃ v, v = w.alloc (.cells #[.slice pz zs.length cz, .slice pl ss.length cl] 40) := ⟨_, rfl⟩
  have HF0 : Hid (W1.cell? ⟨w.heap.size, 0, none⟩ = some (.slice pz zs.length cz)) := by rw [hW1]; unfold Hid; simp [World.cell?_alloc_new]
  have HF1 : Hid (W1.cell? ⟨w.heap.size, 1, none⟩ = some (.slice pl ss.length cl)) := by rw [hW1]; unfold Hid; simp [World.cell?_alloc_new]
  have HWS : Hid (W1.heap.size = w.heap.size + 1) := by rw [hW1]; unfold Hid; simp
  have HBW : Hid (Below w.heap.size w W1) := by rw [hW1]; exact (Below.refl _ _).alloc (Nat.le_refl _) _
  have HW1 := Lib.hid hW1
  clear hW1
  go_enter Try.func6, Try.ntmps6
  go_wp2_with fail
  rw [← HW1.out]
  refine (newK k hk _).mono ?_
  rintro e w2 ⟨b1, rfl, hI, hb2, hg1⟩
  have HB2 := Lib.hid hb2
  have HI := Lib.hid hI
  have HG1 := Lib.hid hg1
  clear hI hb2 hg1
  go_wp2_with fail
  refine (newK k HK.out _).mono ?_
  rintro e w3 ⟨b2, rfl, hO, hb3, hg2⟩
  have HD : Hid (Duo W1.heap.size W1 w3 k b1 [] k b2 []) := ⟨HB2.out.trans (hb3.mono HB2.out.size), HG1.out, Nat.le_trans HB2.out.size hg2, by have := HI.out.lt; omega, HI.out.same (hb3.block b1 HI.out.lt), hO⟩
  clear hO hb3 hg2 HB2 HI HG1
  go_wp2_with fail
  refine (fixedW _).mono ?_
  rintro e w4 ⟨rfl, hb4⟩
  have HD4 := Lib.hid (HD.out.below hb4)
  clear hb4 HD
  go_wp2_with fail
  refine (writeK b1 [] s _ HD4.out.i1 (by rw [List.length_nil]; omega)).mono ?_
  rintro e w5 ⟨rfl, hi5, hg5⟩
  have hd5 := HD4.out.one hg5 hi5
  rw [List.nil_append] at hd5
  have HD5 := Lib.hid hd5
  clear hi5 hg5 hd5 HD4
  go_wp2_with fail
  go_loopw [11, 12] (fun vf vi wr => ∃ (i f : Nat), i ≤ zs.length ∧ vi = .int .i64 (i : Nat) ∧ f ≤ s.size ∧ vf = .int .i64 (f : Nat) ∧ Duo W1.heap.size W1 wr k b1 (bs s) k b2 ((bs s).take f)) (fun _ vi _ => (zs.length - intOf vi).toNat)
  case atStart => exact ⟨0, 0, by omega, rfl, by omega, rfl, by rw [List.take_zero]; exact HD5.out⟩
  case round =>
    obtain ⟨i, f, hi, rfl, hf, rfl, hd⟩ := hrel
    have HD := Lib.hid hd
    clear hd
    have hf0 := (HD.out.bel.cell (p := ⟨w.heap.size, 0, none⟩) (by have := HWS.out; show w.heap.size < W1.heap.size; omega)).trans HF0.out
    have hf1 := (HD.out.bel.cell (p := ⟨w.heap.size, 1, none⟩) (by have := HWS.out; show w.heap.size < W1.heap.size; omega)).trans HF1.out
    by_cases hlt : i < zs.length
    · obtain ⟨pb, po, rfl, hcell⟩ := HCZ.out i hlt
      have hpb := block_lt_of_cell hcell
      have hcx := (HD.out.bel.cell (p := ⟨pb, po + i, none⟩) (by have := HWS.out; show pb < W1.heap.size; have : pb < w.heap.size := hpb; omega)).trans ((HBW.out.cell hpb).trans hcell)
      clear hcell hpb hf1
      obtain ⟨z, hz⟩ : ∃ z, z = zs.getD i 0 := ⟨_, rfl⟩
      rw [← hz] at hcx
      clear hz
      by_cases hbad : z < (f : Int)
      · go_wp2_with fail
        exact ⟨⟨i + 1, f, by omega, rfl, hf, rfl, HD.out⟩, by simp [intOf]; omega⟩
      · by_cases hbad2 : (s.size : Int) < z
        · go_wp2_with fail
          exact ⟨⟨i + 1, f, by omega, rfl, hf, rfl, HD.out⟩, by simp [intOf]; omega⟩
        · obtain ⟨n, rfl⟩ := Int.eq_ofNat_of_zero_le (show 0 ≤ z by omega)
          go_wp2_with fail
          refine (writeK b2 _ (s.extract f n) _ HD.out.i2 (by rw [List.length_take, length_bs, ByteArray.size_extract]; omega)).mono ?_
          rintro e w6 ⟨rfl, hi6, hg6⟩
          have hd6 := HD.out.two hg6 hi6
          rw [bs_cut s f n (by omega)] at hd6
          have HD6 := Lib.hid hd6
          clear hi6 hg6 hd6 HD
          go_wp2_with fail
          exact ⟨⟨i + 1, n, by omega, rfl, by omega, rfl, HD6.out⟩, by simp [intOf]; omega⟩
    · clear hf1
      go_wp2_with fail
      refine (writeK b2 _ (s.extract f s.size) _ HD.out.i2 (by rw [List.length_take, length_bs, ByteArray.size_extract]; omega)).mono ?_
      rintro e w6 ⟨rfl, hi6, hg6⟩
      have hd6 := HD.out.two hg6 hi6
      rw [bs_cut_end s f] at hd6
      have HD6 := Lib.hid hd6
      clear hi6 hg6 hd6 HD hf0
      go_wp2_with fail
      have HBL := Lib.hid (length_bs s)
      go_loopw [14] (fun vi wq => ∃ j : Nat, j ≤ ss.length ∧ vi = .int .i64 (j : Nat) ∧ Duo W1.heap.size W1 wq k b1 (bs s ++ cat (ss.take j)) k b2 (bs s ++ cat (ss.take j))) (fun vi _ => (ss.length - intOf vi).toNat)
      case atStart => exact ⟨0, by omega, rfl, by rw [List.take_zero, cat_nil, List.append_nil]; exact HD6.out⟩
      case round =>
        obtain ⟨j, hj, rfl, hd⟩ := hrel
        have HD := Lib.hid hd
        clear hd
        have hf1 := (HD.out.bel.cell (p := ⟨w.heap.size, 1, none⟩) (by have := HWS.out; show w.heap.size < W1.heap.size; omega)).trans HF1.out
        by_cases hlt : j < ss.length
        · go_wp2_with fail
          refine (hsumK b1 _ _ HD.out.i1 (by rw [List.length_append, HBL.out]; have := length_cat_take ss j; have := HSS.out; omega)).mono ?_
          rintro e w7 ⟨rfl, hb7⟩
          have HD7 := Lib.hid (HD.out.below hb7)
          clear hb7 HD hf1
          go_wp2_with fail
          refine (hsumK b2 _ _ HD7.out.i2 (by rw [List.length_append, HBL.out]; have := length_cat_take ss j; have := HSS.out; omega)).mono ?_
          rintro e w8 ⟨rfl, hb8⟩
          have HD8 := Lib.hid (HD7.out.below hb8)
          clear hb8 HD7
          go_wp2_with fail
          refine (sizeK b1 _ _ HD8.out.i1).mono ?_
          rintro e w9 ⟨rfl, rfl⟩
          go_wp2_with fail
          refine (sizeK b2 _ _ HD8.out.i2).mono ?_
          rintro e w9 ⟨rfl, rfl⟩
          have hf1 := (HD8.out.bel.cell (p := ⟨w.heap.size, 1, none⟩) (by have := HWS.out; show w.heap.size < W1.heap.size; omega)).trans HF1.out
          obtain ⟨pb, po, rfl, hcell⟩ := HCL.out j hlt
          have hsz := size_getD_le ss j hlt
          have htk := cat_take_succ ss j hlt
          obtain ⟨t, ht⟩ : ∃ t, t = ss.getD j ByteArray.empty := ⟨_, rfl⟩
          rw [← ht] at hcell hsz htk
          have hpb := block_lt_of_cell hcell
          have HCX := Lib.hid ((HBW.out.cell hpb).trans hcell)
          have HPB : Hid (pb < W1.heap.size) := by have := HWS.out; have : pb < w.heap.size := hpb; show pb < W1.heap.size; omega
          have hcx := (HD8.out.bel.cell (p := ⟨pb, po + j, none⟩) HPB.out).trans HCX.out
          have HTK := Lib.hid htk
          have HSZ := Lib.hid (Nat.le_trans hsz HSS.out)
          clear hcell ht htk hsz hpb
          go_wp2_with fail
          refine (writeK b1 _ t _ HD8.out.i1 (by rw [List.length_append, HBL.out]; have := HSZ.out; omega)).mono ?_
          rintro e w10 ⟨rfl, hi10, hg10⟩
          have hd10 := HD8.out.one hg10 hi10
          have HD10 := Lib.hid hd10
          clear hi10 hg10 hd10 HD8 hf1 hcx
          have hf1 := (HD10.out.bel.cell (p := ⟨w.heap.size, 1, none⟩) (by have := HWS.out; show w.heap.size < W1.heap.size; omega)).trans HF1.out
          have hcx := (HD10.out.bel.cell (p := ⟨pb, po + j, none⟩) HPB.out).trans HCX.out
          go_wp2_with fail
          refine (writeK b2 _ t _ HD10.out.i2 (by rw [List.length_append, HBL.out]; have := HSZ.out; omega)).mono ?_
          rintro e w11 ⟨rfl, hi11, hg11⟩
          have hd11 := HD10.out.two hg11 hi11
          rw [List.append_assoc, ← HTK.out] at hd11
          have HD11 := Lib.hid hd11
          clear hi11 hg11 hd11 HD10 hf1 hcx
          go_wp2_with fail
          go_roundw
          case rel => exact ⟨j + 1, by omega, rfl, HD11.out⟩
          case measure => simp [intOf]; omega
        · go_wp2_with fail
          refine (hsumK b1 _ _ HD.out.i1 (by rw [List.length_append, HBL.out]; have := length_cat_take ss j; have := HSS.out; omega)).mono ?_
          rintro e w7 ⟨rfl, hb7⟩
          have HD7 := Lib.hid (HD.out.below hb7)
          clear hb7 HD hf1
          go_wp2_with fail
          refine (hsumK b2 _ _ HD7.out.i2 (by rw [List.length_append, HBL.out]; have := length_cat_take ss j; have := HSS.out; omega)).mono ?_
          rintro e w8 ⟨rfl, hb8⟩
          have HD8 := Lib.hid (HD7.out.below hb8)
          clear hb8 HD7
          go_wp2_with fail
          refine (sizeK b1 _ _ HD8.out.i1).mono ?_
          rintro e w9 ⟨rfl, rfl⟩
          go_wp2_with fail
          refine (sizeK b2 _ _ HD8.out.i2).mono ?_
          rintro e w9 ⟨rfl, rfl⟩
          go_wp2_with fail
          go_ret
          exact ⟨by simp, HBW.out.trans (HD8.out.bel.mono (by have := HWS.out; omega))⟩
end Go.Proofs.Ytjlhckgokdjajaa
