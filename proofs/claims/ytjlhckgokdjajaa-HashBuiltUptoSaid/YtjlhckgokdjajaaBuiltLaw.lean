/- The walk of HashBuilt. -/
import Derived.Test.YtjlhckgokdjajaaDuo
import Derived.Deep.DeepCutAuto
import Derived.Test.YtjlhckgokdjajaaFixed
namespace Go.Proofs.Ytjlhckgokdjajaa
open Go.RowKit
set_option maxRecDepth 100000 in
set_option maxHeartbeats 400000 in
theorem builtNo (k : Int) (h0 : k ≠ 0) (h1 : k ≠ 1) (key : ByteArray) (l : Value) (w : World) :
    Calls Try.prog 8 #[.int .i64 k, .string key, l] w fun e w' => e = .returned (.bool true) ∧ Below w.heap.size w w' := by
  have H0 := Lib.hid h0
  have H1 := Lib.hid h1
  clear h0 h1
  go_enter Try.func8, Try.ntmps8
  go_wp2_with fail
  refine (fixedW _).mono ?_
  rintro e w1 ⟨rfl, hb1⟩
  have HB1 := Lib.hid hb1
  clear hb1
  go_wp2_with fail
  refine (newNo k H0.out H1.out _).mono ?_
  rintro e w2 ⟨rfl, rfl⟩
  go_wp2_with fail
  refine (newNo k H0.out H1.out _).mono ?_
  rintro e w2 ⟨rfl, rfl⟩
  have h0 : (k != 0) = true := by simpa using H0.out
  have h1 : (k != 1) = true := by simpa using H1.out
  go_wp2_with fail
  go_ret
  exact ⟨rfl, HB1.out⟩
set_option maxRecDepth 100000 in
set_option maxHeartbeats 800000 in
theorem builtK (k : Nat) (hk : k < 2) (key : ByteArray) (l : Value) (ss : List ByteArray) (w : World) (hkey : key.size ≤ 140737488355328) (hl : Strs w l ss) (hss : (cat ss).length ≤ 140737488355328) (hn : ss.length ≤ 140737488355328) :
    Calls Try.prog 8 #[.int .i64 (k : Nat), .string key, l] w fun e w' => e = .returned (.bool true) ∧ Below w.heap.size w w' := by
  have HKEY := Lib.hid hkey
  have HSS := Lib.hid hss
  have HLL := Lib.hid hl
  have HK := Lib.hid hk
  obtain ⟨pl, cl, rfl, hcl⟩ := hl.form
  have HCL := Lib.hid hcl
  have HM := Lib.hid (mac_pads k hk key)
  clear hkey hss hl hcl
  go_enter Try.func8, Try.ntmps8
  go_wp2_with fail
  refine (fixedW _).mono ?_
  rintro e w1 ⟨rfl, hb1⟩
  have HB1 := Lib.hid hb1
  clear hb1
  go_wp2_with fail
  refine (newK k hk _).mono ?_
  rintro e w2 ⟨b1, rfl, hI, hb2, hg1⟩
  have HB2 := Lib.hid (HB1.out.trans (hb2.mono HB1.out.size))
  have HI := Lib.hid hI
  have HG1 := Lib.hid (Nat.le_trans HB1.out.size hg1)
  clear hI hb2 hg1 HB1
  go_wp2_with fail
  refine (newK k hk _).mono ?_
  rintro e w3 ⟨b2, rfl, hO, hb3, hg2⟩
  have HD : Hid (Duo w.heap.size w w3 k b1 [] k b2 []) := ⟨HB2.out.trans (hb3.mono HB2.out.size), HG1.out, Nat.le_trans HB2.out.size hg2, by have := HI.out.lt; omega, HI.out.same (hb3.block b1 HI.out.lt), hO⟩
  clear hO hb3 hg2 HB2 HI HG1
  go_upto_if 59 with fail
  go_cut [12] (fun s12 wx => ∃ ks : ByteArray, s12 = .string ks ∧ bs ks = Sha.short (kd k) (bs key) ∧ ks.size ≤ 64 + 64 * k ∧ Duo w.heap.size w wx k b1 [] k b2 [])
  case first =>
    by_cases hlong : 64 + 64 * k < key.size
    · have HSH := Lib.hid (short_sum k HK.out key hlong)
      go_wp2_with fail
      refine (sumK k HK.out key _ (by have := HKEY.out; omega)).mono ?_
      rintro e w4 ⟨rfl, hb4⟩
      have HD4 := Lib.hid (HD.out.below hb4)
      clear hb4
      go_wp2_with fail
      go_meet
      exact ⟨_, rfl, by rw [HSH.out, bs_strOf _ (Sha.sum_lt _ _)], by rw [size_strOf]; have := sum_kd_le k (bs key); omega, HD4.out⟩
    · have HSH := Lib.hid (short_eq k HK.out key hlong)
      go_wp2_with fail
      go_meet
      exact ⟨_, rfl, HSH.out.symm, by omega, HD.out⟩
  case rest =>
    obtain ⟨ks, rfl, hks, hksz, hd⟩ := hcut
    have HKS := Lib.hid hks
    have HDC := Lib.hid hd
    clear hks hd HD
    go_wp2_with fail
    go_loopw [13] (fun vi wr => ∃ i : Nat, i ≤ 64 + 64 * k ∧ vi = .int .i64 (i : Nat) ∧ Duo w.heap.size w wr k b1 (pads ks 54 i) k b2 (pads ks 92 i)) (fun vi _ => (200 - intOf vi).toNat)
    case atStart => exact ⟨0, by omega, rfl, HDC.out⟩
    case round =>
      obtain ⟨i, hi, rfl, hd⟩ := hrel
      have HDR := Lib.hid hd
      clear hd
      by_cases hil : i < 64 + 64 * k
      · go_upto_if 74 with fail
        go_cut [14] (fun s14 wx => s14 = .int .u8 ((bs ks).getD i 0 : Nat) ∧ wx = wr)
        case first =>
          by_cases hik : i < ks.size
          · have CI := Lib.hid (getD_bs_eq ks i hik)
            go_wp2_with fail
            go_meet
            exact ⟨by rw [CI.out], rfl⟩
          · have CI := Lib.hid (getD_bs_out ks i (by omega))
            go_wp2_with fail
            go_meet
            exact ⟨by rw [CI.out]; rfl, rfl⟩
        case rest =>
          obtain ⟨rfl, rfl⟩ := hcut
          obtain ⟨X, hXX⟩ : ∃ X, X = (bs ks).getD i 0 ^^^ 54 := ⟨_, rfl⟩
          obtain ⟨Y, hYY⟩ : ∃ X, X = (bs ks).getD i 0 ^^^ 92 := ⟨_, rfl⟩
          have hX : bits .xor .u8 (((bs ks).getD i 0 : Nat) : Int) 54 = (X : Int) := by rw [hXX]; exact bits_pad ks 54 i (by decide)
          have hY : bits .xor .u8 (((bs ks).getD i 0 : Nat) : Int) 92 = (Y : Int) := by rw [hYY]; exact bits_pad ks 92 i (by decide)
          have hXl : X < 256 := by rw [hXX]; exact pad_lt ks 54 i (by decide)
          have hYl : Y < 256 := by rw [hYY]; exact pad_lt ks 92 i (by decide)
          have HXX := Lib.hid hXX
          have HYY := Lib.hid hYY
          obtain ⟨c, hc⟩ : ∃ c, c = (((bs ks).getD i 0 : Nat) : Int) := ⟨_, rfl⟩
          rw [← hc] at hX hY ⊢
          clear hXX hYY hc
          go_wp2_with (first | (with_reducible refine wpList_bytes_string (o := ⟨some 82, _, _, _, _, _⟩) rfl 42 9 _ rfl Try.underlying42 Try.underlying5 Try.underlying9 _ 0 1 1 rfl [X] rfl ?e3 ?_))
          case e3 => intro j hj; obtain rfl : j = 0 := by omega
                     simp
          refine (writeK b1 (pads ks 54 i) (strOf [X]) _ (HDR.out.alloc _).i1 (by rw [length_pads, size_strOf]; simp; omega)).mono ?_
          rintro e w5 ⟨rfl, hi5, hg5⟩
          have hd5 := (HDR.out.alloc _).one hg5 hi5
          rw [bs_strOf [X] (by simpa using hXl), HXX.out, ← pads_succ] at hd5
          have HD5 := Lib.hid hd5
          clear hi5 hg5 hd5 HDR hX hXl HXX
          go_wp2_with (first | (with_reducible refine wpList_bytes_string (o := ⟨some 88, _, _, _, _, _⟩) rfl 42 9 _ rfl Try.underlying42 Try.underlying5 Try.underlying9 _ 0 1 1 rfl [Y] rfl ?e3 ?_))
          case e3 => intro j hj; obtain rfl : j = 0 := by omega
                     simp
          refine (writeK b2 (pads ks 92 i) (strOf [Y]) _ (HD5.out.alloc _).i2 (by rw [length_pads, size_strOf]; simp; omega)).mono ?_
          rintro e w6 ⟨rfl, hi6, hg6⟩
          have hd6 := (HD5.out.alloc _).two hg6 hi6
          rw [bs_strOf [Y] (by simpa using hYl), HYY.out, ← pads_succ] at hd6
          have HD6 := Lib.hid hd6
          clear hi6 hg6 hd6 HD5 hY hYl HYY
          go_wp2_with fail
          go_roundw
          case rel => exact ⟨i + 1, by omega, rfl, HD6.out⟩
          case measure => simp [intOf]; omega
      · have hiB : i = 64 + 64 * k := by omega
        have hdr := HDR.out
        rw [hiB] at hdr
        clear HDR hiB
        have HDR := Lib.hid hdr
        clear hdr
        go_wp2_with fail
        have hO : Owns (wr.alloc (.cells #[] 5)) wr.heap.size 5 (.slice (some ⟨wr.heap.size, 0, none⟩) 0 0) [] := Owns.lit wr [] #[] (Nat.le_refl _) rfl (by decide)
        obtain ⟨W4, hW4⟩ : ∃ v, v = wr.alloc (.cells #[] 5) := ⟨_, rfl⟩
        have hd4 : Duo w.heap.size w W4 k b1 (pads ks 54 (64 + 64 * k)) k b2 (pads ks 92 (64 + 64 * k)) := by rw [hW4]; exact HDR.out.alloc _
        have hbl1 : b1 < wr.heap.size := HDR.out.i1.lt
        have hbl2 : b2 < wr.heap.size := HDR.out.i2.lt
        have hws : wr.heap.size ≤ W4.heap.size := by rw [hW4]; simp
        rw [← hW4] at hO ⊢
        obtain ⟨base, hbase⟩ : ∃ b, b = wr.heap.size := ⟨_, rfl⟩
        rw [← hbase] at hO hbl1 hbl2 hws ⊢
        have hPl : (pads ks 54 (64 + 64 * k)).length = 64 + 64 * k := length_pads _ _ _
        have hQl : (pads ks 92 (64 + 64 * k)).length = 64 + 64 * k := length_pads _ _ _
        obtain ⟨PP, hP⟩ : ∃ t, t = pads ks 54 (64 + 64 * k) := ⟨_, rfl⟩
        obtain ⟨QQ, hQ⟩ : ∃ t, t = pads ks 92 (64 + 64 * k) := ⟨_, rfl⟩
        rw [← hP] at hd4 hPl
        rw [← hQ] at hd4 hQl
        have HO := Lib.hid hO
        have HD4 := Lib.hid hd4
        have HP := Lib.hid hP
        have HQ := Lib.hid hQ
        have HPL := Lib.hid hPl
        have HQL := Lib.hid hQl
        have HBASE := Lib.hid (And.intro hbl1 (And.intro hbl2 (HD4.out.n1)))
        have HWS := Lib.hid hws
        clear hO hd4 hP hQ hPl hQl hbl1 hbl2 hws hbase hW4 HDR
        go_loopw [15, 16] (fun va vi w5 => ∃ i : Nat, i ≤ ss.length ∧ vi = .int .i64 (i : Nat) ∧ Owns w5 base 5 va (cat (ss.take i)) ∧ base ≤ w5.heap.size ∧ Duo w.heap.size w w5 k b1 (PP ++ cat (ss.take i)) k b2 QQ) (fun _ vi _ => (ss.length - intOf vi).toNat)
        case atStart => exact ⟨0, by omega, rfl, HO.out, HWS.out, by rw [List.take_zero, cat_nil, List.append_nil]; exact HD4.out⟩
        case round =>
          obtain ⟨j, hj, rfl, hown, hbs, hd⟩ := hrel
          have HOW := Lib.hid hown
          have HD := Lib.hid hd
          have HBS := Lib.hid hbs
          clear hown hd hbs
          by_cases hlt : j < ss.length
          · obtain ⟨pb, po, rfl, hcell⟩ := HCL.out j hlt
            have hsz := size_getD_le ss j hlt
            have htk := cat_take_succ ss j hlt
            obtain ⟨s, hs⟩ : ∃ s, s = ss.getD j ByteArray.empty := ⟨_, rfl⟩
            rw [← hs] at hcell hsz htk
            have hpb := block_lt_of_cell hcell
            have hcx := (HD.out.bel.cell (p := ⟨pb, po + j, none⟩) hpb).trans hcell
            have HCX := Lib.hid hcell
            have HTK := Lib.hid htk
            have HSZ := Lib.hid (Nat.le_trans hsz HSS.out)
            have HPB := Lib.hid hpb
            clear hcell hs htk hsz hpb
            go_wp2_with fail
            refine (writeK b1 _ s _ HD.out.i1 (by rw [List.length_append, HPL.out]; have := HSZ.out; have := HK.out; omega)).mono ?_
            rintro e w6 ⟨rfl, hi6, hg6⟩
            have hd6 := HD.out.one hg6 hi6
            rw [List.append_assoc, ← HTK.out] at hd6
            have HD6 := Lib.hid hd6
            have HO6 := Lib.hid (HOW.out.grown hg6 (.inr (fun e => by have := (HOW.out.block e).1; have := HBASE.out.1; omega)))
            have HBS6 := Lib.hid (Nat.le_trans HBS.out hg6.size)
            have hcx := (HD6.out.bel.cell (p := ⟨pb, po + j, none⟩) HPB.out).trans HCX.out
            clear hi6 hg6 hd6 HD HOW HBS
            go_wp2_with (at_builtin; refine wpList_append_str rfl _ _ 42 9 rfl Try.underlying42 Try.underlying9 info5 rfl HO6.out s rfl (by have := HSZ.out; omega) HBS6.out ?_)
            intro va' w7 ho7 hg7 _
            have hd7 := HD6.out.else_ hg7 (fun g hg => by have := (HO6.out.block hg).1; have := HBASE.out; omega)
            rw [← HTK.out] at ho7
            have HO7 := Lib.hid ho7
            have HD7 := Lib.hid hd7
            have HBS7 := Lib.hid (Nat.le_trans HBS6.out hg7.size)
            obtain ⟨vp, vc, rfl⟩ := ho7.shape
            clear ho7 hd7 hg7 HO6 HD6 HBS6 hcx
            go_wp2_with fail
            refine (sizeK b1 _ _ HD7.out.i1).mono ?_
            rintro e w8 ⟨rfl, rfl⟩
            have hne : ((((PP ++ cat (ss.take (j + 1))).length : Nat) : Int) != 64 + 64 * (k : Int) + (((cat (ss.take (j + 1))).length : Nat) : Int)) = false := by
              rw [List.length_append, HPL.out, bne_eq_false_iff_eq]; omega
            have hlen := length_cat_take ss (j + 1)
            have hlen2 := Nat.le_trans hlen HSS.out
            clear hlen
            obtain ⟨M, hM⟩ : ∃ M, M = (PP ++ cat (ss.take (j + 1))).length := ⟨_, rfl⟩
            obtain ⟨L, hL⟩ : ∃ M, M = (cat (ss.take (j + 1))).length := ⟨_, rfl⟩
            rw [← hM, ← hL] at hne
            rw [← hL] at hlen2
            rw [← hM, ← hL]
            have HL := Lib.hid hL
            clear hM hL
            go_wp2_with fail
            go_roundw
            case rel => exact ⟨j + 1, by omega, rfl, by rw [HL.out]; exact HO7.out, HBS7.out, HD7.out⟩
            case measure => simp [intOf]; omega
          · have hie : j = ss.length := by omega
            subst hie
            rw [List.take_length] at HOW HD
            go_wp2_with fail
            refine (hsumK b1 _ _ HD.out.i1 (by rw [List.length_append, HPL.out]; have := HSS.out; have := HK.out; omega)).mono ?_
            rintro e w6 ⟨rfl, hb6⟩
            have HD6 := Lib.hid (HD.out.below hb6)
            have HO6 := Lib.hid (HOW.out.below hb6)
            obtain ⟨inner, hinner⟩ : ∃ t, t = strOf (Sha.sum (kd k) (PP ++ cat ss)) := ⟨_, rfl⟩
            rw [← hinner]
            have hil8 : inner.size ≤ 48 := by rw [hinner, size_strOf]; exact sum_kd_le _ _
            have hbi : bs inner = Sha.sum (kd k) (PP ++ cat ss) := by rw [hinner, bs_strOf _ (Sha.sum_lt _ _)]
            have HBI := Lib.hid hbi
            have HI8 := Lib.hid hil8
            clear hinner hbi hil8 hb6 HD HOW
            go_wp2_with fail
            refine (writeK b2 _ inner _ HD6.out.i2 (by rw [HQL.out]; have := HI8.out; have := HK.out; omega)).mono ?_
            rintro e w7 ⟨rfl, hi7, hg7⟩
            have hd7 := HD6.out.two hg7 hi7
            rw [HBI.out] at hd7
            have HD7 := Lib.hid hd7
            have HO7 := Lib.hid (HO6.out.grown hg7 (.inr (fun e => by have := (HO6.out.block e).1; have := HBASE.out; omega)))
            clear hi7 hg7 hd7 HD6 HO6
            go_wp2_with (first | (with_reducible refine wpList_owned_string (o := ⟨some 124, _, _, _, _, _⟩) rfl 42 9 _ rfl Try.underlying42 Try.underlying5 Try.underlying9 rfl HO7.out ?_))
            refine (macK k HK.out key _ _ (by have := HKEY.out; omega) (by rw [size_strOf]; have := HSS.out; omega)).mono ?_
            rintro e w8 ⟨rfl, hb8⟩
            have HD8 := Lib.hid (HD7.out.below hb8)
            have hmm : strOf (Sha.sum (kd k) (QQ ++ Sha.sum (kd k) (PP ++ cat ss))) = strOf (Sha.mac (kd k) (bs key) (bs (strOf (cat ss)))) := by
              rw [bs_strOf _ (cat_lt ss), ← HM.out ks (cat ss) HKS.out, ← HP.out, ← HQ.out]
            have HMM := Lib.hid hmm
            obtain ⟨m, hm⟩ : ∃ t, t = strOf (Sha.mac (kd k) (bs key) (bs (strOf (cat ss)))) := ⟨_, rfl⟩
            rw [← hm]
            have HMM := Lib.hid (hmm.trans hm.symm)
            clear hmm hm hb8 HD7 HO7
            go_wp2_with fail
            refine (hsumK b2 _ _ HD8.out.i2 (by rw [List.length_append, HQL.out]; have := sum_kd_le k (PP ++ cat ss); have := HK.out; omega)).mono ?_
            rintro e w9 ⟨rfl, hb9⟩
            rw [HMM.out]
            have HD9 := Lib.hid (HD8.out.below hb9)
            clear hb9
            go_wp2_with fail
            go_ret
            exact ⟨by simp, HD9.out.bel⟩
end Go.Proofs.Ytjlhckgokdjajaa
