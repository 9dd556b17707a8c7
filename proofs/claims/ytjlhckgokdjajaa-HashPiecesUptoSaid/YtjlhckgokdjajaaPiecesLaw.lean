/- The walk of HashPieces. -/
import Derived.Test.YtjlhckgokdjajaaDuo
import Derived.Test.YtjlhckgokdjajaaFixed
import Derived.Deep.DeepCutAuto
namespace Go.Proofs.Ytjlhckgokdjajaa
open Go.RowKit
set_option maxRecDepth 100000 in
set_option maxHeartbeats 400000 in
theorem piecesNo (k : Int) (h0 : k ≠ 0) (h1 : k ≠ 1) (l : Value) (w : World) :
    Calls Try.prog 9 #[.int .i64 k, l] w fun e w' => e = .returned (.bool true) ∧ Below w.heap.size w w' := by
  have H0 := Lib.hid h0
  have H1 := Lib.hid h1
  clear h0 h1
  go_enter Try.func9, Try.ntmps9
  go_wp2_with fail
  refine (newNo k H0.out H1.out _).mono ?_
  rintro e w2 ⟨rfl, rfl⟩
  go_wp2_with fail
  refine (fixedW _).mono ?_
  rintro e w1 ⟨rfl, hb1⟩
  have HB1 := Lib.hid hb1
  clear hb1
  have h0 : (k != 0) = true := by simpa using H0.out
  have h1 : (k != 1) = true := by simpa using H1.out
  go_wp2_with fail
  go_ret
  exact ⟨rfl, HB1.out⟩
theorem other_size : (⟨#[111, 116, 104, 101, 114]⟩ : ByteArray).size = 5 := rfl
set_option maxRecDepth 100000 in
set_option maxHeartbeats 800000 in
theorem piecesK (k : Nat) (hk : k < 2) (l : Value) (ss : List ByteArray) (w : World)
    (hl : Strs w l ss) (hss : (cat ss).length ≤ 70368744177664) (hn : ss.length ≤ 70368744177664) :
    Calls Try.prog 9 #[.int .i64 (k : Nat), l] w fun e w' => e = .returned (.bool true) ∧ Below w.heap.size w w' := by
  have HSS := Lib.hid hss
  have HK := Lib.hid hk
  obtain ⟨pl, cl, rfl, hcl⟩ := hl.form
  have HCL := Lib.hid hcl
  clear hss hl hcl
  go_enter Try.func9, Try.ntmps9
  go_wp2_with fail
  refine (newK k hk _).mono ?_
  rintro e w2 ⟨b1, rfl, hI, hb2, hg1⟩
  have HU : Hid (Uno w.heap.size w w2 k b1 []) := ⟨hb2, hg1, hI⟩
  clear hI hb2 hg1
  go_wp2_with fail
  refine (fixedW _).mono ?_
  rintro e w3 ⟨rfl, hb3⟩
  have HU3 := Lib.hid (HU.out.below hb3)
  clear hb3 HU
  go_wp2_with fail
  have hO : Owns (w3.alloc (.cells #[] 5)) w3.heap.size 5 (.slice (some ⟨w3.heap.size, 0, none⟩) 0 0) [] := Owns.lit w3 [] #[] (Nat.le_refl _) rfl (by decide)
  obtain ⟨W4, hW4⟩ : ∃ v, v = w3.alloc (.cells #[] 5) := ⟨_, rfl⟩
  have hu4 : Uno w.heap.size w W4 k b1 [] := by rw [hW4]; exact HU3.out.alloc _
  have hbl : b1 < w3.heap.size := HU3.out.i1.lt
  have hws : w3.heap.size ≤ W4.heap.size := by rw [hW4]; simp
  rw [← hW4] at hO ⊢
  obtain ⟨base, hbase⟩ : ∃ b, b = w3.heap.size := ⟨_, rfl⟩
  rw [← hbase] at hO hbl hws ⊢
  have HO := Lib.hid hO
  have HU4 := Lib.hid hu4
  have HBASE := Lib.hid (And.intro hbl HU4.out.n1)
  have HWS := Lib.hid hws
  clear hO hu4 hbl hws hbase hW4 HU3
  go_loopw [7, 8, 9] (fun va vl vi wr => ∃ (i : Nat) (L : Int), i ≤ ss.length ∧ vi = .int .i64 (i : Nat) ∧ vl = .int .i64 L ∧ -1000000000000000 ≤ L ∧ L ≤ 4194304 ∧ Owns wr base 5 va (cat (ss.take i)) ∧ base ≤ wr.heap.size ∧ Uno w.heap.size w wr k b1 (cat (ss.take i))) (fun _ _ vi _ => (ss.length - intOf vi).toNat)
  case atStart => exact ⟨0, 4194304, by omega, rfl, rfl, by omega, by omega, HO.out, HWS.out, HU4.out⟩
  case round =>
    obtain ⟨i, L, hi, rfl, rfl, hL1, hL2, hown, hbs, hu⟩ := hrel
    have HOW := Lib.hid hown
    have HU := Lib.hid hu
    have HBS := Lib.hid hbs
    clear hown hu hbs
    by_cases hlt : i < ss.length
    · obtain ⟨pb, po, rfl, hcell⟩ := HCL.out i hlt
      have hsz := size_getD_le ss i hlt
      have htk := cat_take_succ ss i hlt
      obtain ⟨s, hs⟩ : ∃ s, s = ss.getD i ByteArray.empty := ⟨_, rfl⟩
      rw [← hs] at hcell hsz htk
      have hpb := block_lt_of_cell hcell
      have hcx := (HU.out.bel.cell (p := ⟨pb, po + i, none⟩) hpb).trans hcell
      have HCX := Lib.hid hcell
      have HTK := Lib.hid htk
      have HSZ := Lib.hid (Nat.le_trans hsz HSS.out)
      have HPB := Lib.hid hpb
      clear hcell hs htk hsz hpb
      by_cases hneg : L < 0
      · go_wp2_with fail
        refine (writeK b1 _ s _ HU.out.i1 (by have := HSZ.out; omega)).mono ?_
        rintro e w6 ⟨rfl, hi6, hg6⟩
        have hu6 := HU.out.one hg6 hi6
        rw [← HTK.out] at hu6
        have HU6 := Lib.hid hu6
        have HO6 := Lib.hid (HOW.out.grown hg6 (.inr (fun e => by have := (HOW.out.block e).1; have := HBASE.out.1; omega)))
        have HBS6 := Lib.hid (Nat.le_trans HBS.out hg6.size)
        have hcx := (HU6.out.bel.cell (p := ⟨pb, po + i, none⟩) HPB.out).trans HCX.out
        clear hi6 hg6 hu6 HU HOW HBS
        go_wp2_with (at_builtin; refine wpList_append_str rfl _ _ 42 9 rfl Try.underlying42 Try.underlying9 info5 rfl HO6.out s rfl (by have := HSZ.out; omega) HBS6.out ?_)
        intro va' w7 ho7 hg7 _
        have hu7 := HU6.out.else_ hg7 (fun g hg => by have := (HO6.out.block hg).1; have := HBASE.out; omega)
        rw [← HTK.out] at ho7
        have HO7 := Lib.hid ho7
        have HU7 := Lib.hid hu7
        have HBS7 := Lib.hid (Nat.le_trans HBS6.out hg7.size)
        clear ho7 hu7 hg7 HO6 HU6 HBS6 hcx
        go_wp2_with fail
        exact ⟨⟨i + 1, L, by omega, rfl, rfl, hL1, hL2, HO7.out, HBS7.out, HU7.out⟩, by simp [intOf]; omega⟩
      · obtain ⟨vp, vc, rfl⟩ := HOW.out.shape
        have hsb : s.size ≤ 70368744177664 := by have := HSZ.out; omega
        have hlb : (cat (ss.take i)).length ≤ 70368744177664 := by have := HSZ.out; omega
        have how := HOW.out
        obtain ⟨N, hN⟩ : ∃ N, N = (cat (ss.take i)).length := ⟨_, rfl⟩
        rw [← hN] at hlb how ⊢
        have HN := Lib.hid hN
        clear hN HOW
        have HOW := Lib.hid how
        clear how
        go_wp2_with fail
        refine (cloneK b1 _ _ HU.out.i1).mono ?_
        rintro e w6 ⟨rfl, hi6, hb6⟩
        have HD6 := Lib.hid (HU.out.clone hb6 (Nat.le_refl _) hi6)
        have HO6 := Lib.hid (HOW.out.below hb6)
        obtain ⟨b2, hb2⟩ : ∃ b, b = wr.heap.size := ⟨_, rfl⟩
        rw [← hb2] at HD6 ⊢
        have HB2 : Hid (base ≤ b2 ∧ (∀ g, vp.map (·.block) = some g → g < b2)) := ⟨by rw [hb2]; exact HBS.out, fun g hg => by
          rw [hb2]; exact (HOW.out.block (k := g) (by cases vp <;> simp_all [Value.ownBlock])).2⟩
        have HBS6 := Lib.hid (Nat.le_trans HBS.out hb6.size)
        clear hi6 hb6 hb2 HU HOW HBS hcx
        go_wp2_with fail
        refine (writeK b2 _ _ _ HD6.out.i2 (by rw [other_size]; have := HN.out; omega)).mono ?_
        rintro e w7 ⟨rfl, hi7, hg7⟩
        have HD7 := Lib.hid (HD6.out.two hg7 hi7)
        have HO7 := Lib.hid (HO6.out.grown hg7 (by
          cases hv : vp with
          | none => exact .inl rfl
          | some g => exact .inr (fun e => by
              have := HB2.out.2 g.block (by rw [hv]; rfl)
              simp only [Value.ownBlock] at e
              injection e with e
              omega)))
        have HBS7 := Lib.hid (Nat.le_trans HBS6.out hg7.size)
        have hcx := (HD7.out.bel.cell (p := ⟨pb, po + i, none⟩) HPB.out).trans HCX.out
        clear hi7 hg7 HD6 HO6 HBS6
        go_wp2_with fail
        refine (writeK b1 _ s _ HD7.out.i1 (by have := HSZ.out; omega)).mono ?_
        rintro e w8 ⟨rfl, hi8, hg8⟩
        have hd8 := HD7.out.one hg8 hi8
        rw [← HTK.out] at hd8
        have HD8 := Lib.hid hd8
        have HO8 := Lib.hid (HO7.out.grown hg8 (.inr (fun e => by have := (HO7.out.block e).1; have := HBASE.out.1; omega)))
        have HBS8 := Lib.hid (Nat.le_trans HBS7.out hg8.size)
        clear hi8 hg8 hd8 HD7 HO7 HBS7 hcx
        have hok : ¬ 9223372036854775807 < (strOf (cat (ss.take i))).size + 5 := by rw [size_strOf, ← HN.out]; omega
        go_wp2_with (first | (with_reducible refine wpList_owned_string (o := ⟨some 87, _, _, _, _, _⟩) rfl 42 9 _ rfl Try.underlying42 Try.underlying5 Try.underlying9 rfl HO8.out ?_))
        refine (sumK k HK.out _ _ (by rw [ByteArray.size_append, size_strOf, other_size, ← HN.out]; omega)).mono ?_
        rintro e w9 ⟨rfl, hb9⟩
        have HD9 := Lib.hid (HD8.out.below hb9)
        have HO9 := Lib.hid (HO8.out.below hb9)
        have HBS9 := Lib.hid (Nat.le_trans HBS8.out hb9.size)
        rw [bs_append, bs_strOf _ (cat_lt _)]
        clear hb9 HD8 HO8 HBS8 hok
        have HI2 := Lib.hid HD9.out.i2
        obtain ⟨m, hm⟩ : ∃ m, m = strOf (Sha.sum (kd k) (cat (ss.take i) ++ bs ⟨#[111, 116, 104, 101, 114]⟩)) := ⟨_, rfl⟩
        rw [← hm]
        have HM := Lib.hid hm
        clear hm
        go_wp2_with fail
        refine (hsumK b2 _ _ HI2.out (by rw [List.length_append, length_bs, other_size, ← HN.out]; omega)).mono ?_
        rintro e w10 ⟨rfl, hb10⟩
        rw [← HM.out]
        have HD10 := Lib.hid (HD9.out.below hb10)
        have HO10 := Lib.hid (HO9.out.below hb10)
        have HBS10 := Lib.hid (Nat.le_trans HBS9.out hb10.size)
        have hcx := (HD10.out.bel.cell (p := ⟨pb, po + i, none⟩) HPB.out).trans HCX.out
        clear hb10 HD9 HO9 HBS9 HI2 HM
        go_wp2_with (at_builtin; refine wpList_append_str rfl _ _ 42 9 rfl Try.underlying42 Try.underlying9 info5 rfl HO10.out s rfl (by have := HSZ.out; omega) HBS10.out ?_)
        intro va' w11 ho11 hg11 hva
        have hu11 := HD10.out.fst.else_ hg11 (fun g hg => by have := (HO10.out.block hg).1; have := HBASE.out; omega)
        rw [← HTK.out] at ho11
        have HU11 := Lib.hid hu11
        have HBS11 := Lib.hid (Nat.le_trans HBS10.out hg11.size)
        obtain ⟨vp2, vc2, rfl⟩ := ho11.shape
        have HO11 := Lib.hid ho11
        clear ho11 hu11 hg11 HO10 HD10 HBS10 hcx hva
        have hlen2 := length_cat_take ss (i + 1)
        have hlen3 := Nat.le_trans hlen2 HSS.out
        have ho := HO11.out
        obtain ⟨M, hM⟩ : ∃ N, N = (cat (ss.take (i + 1))).length := ⟨_, rfl⟩
        rw [← hM] at hlen3 ho ⊢
        have HM := Lib.hid hM
        clear hM HO11 hlen2
        have HO11 := Lib.hid ho
        clear ho
        go_wp2_with (first | (with_reducible refine wpList_owned_string (o := ⟨some 105, _, _, _, _, _⟩) rfl 42 9 _ rfl Try.underlying42 Try.underlying5 Try.underlying9 rfl HO11.out ?_))
        refine (sumK k HK.out _ _ (by rw [size_strOf, ← HM.out]; omega)).mono ?_
        rintro e w12 ⟨rfl, hb12⟩
        rw [bs_strOf _ (cat_lt _)]
        have HU12 := Lib.hid (HU11.out.below hb12)
        have HO12 := Lib.hid (HO11.out.below hb12)
        have HBS12 := Lib.hid (Nat.le_trans HBS11.out hb12.size)
        clear hb12 HU11 HO11 HBS11
        go_wp2_with fail
        refine (hsumK b1 _ _ HU12.out.i1 (by rw [← HM.out]; omega)).mono ?_
        rintro e w13 ⟨rfl, hb13⟩
        have HU13 := Lib.hid (HU12.out.below hb13)
        have HO13 := Lib.hid (HO12.out.below hb13)
        have HBS13 := Lib.hid (Nat.le_trans HBS12.out hb13.size)
        clear hb13 HU12 HO12 HBS12
        go_wp2_with fail
        refine (sizeK b1 _ _ HU13.out.i1).mono ?_
        rintro e w14 ⟨rfl, rfl⟩
        rw [← HM.out]
        go_wp2_with fail
        go_roundw
        case rel => exact ⟨i + 1, _, by omega, rfl, rfl, by omega, by omega, by rw [HM.out] at HO13 ⊢; exact HO13.out, HBS13.out, HU13.out⟩
        case measure => simp [intOf]; omega
    · have hie : i = ss.length := by omega
      subst hie
      rw [List.take_length] at HOW HU
      go_wp2_with (first | (with_reducible refine wpList_owned_string (o := ⟨some 123, _, _, _, _, _⟩) rfl 42 9 _ rfl Try.underlying42 Try.underlying5 Try.underlying9 rfl HOW.out ?_))
      refine (sumK k HK.out _ _ (by rw [size_strOf]; have := HSS.out; omega)).mono ?_
      rintro e w12 ⟨rfl, hb12⟩
      rw [bs_strOf _ (cat_lt _)]
      have HU12 := Lib.hid (HU.out.below hb12)
      clear hb12 HU HOW HBS
      go_wp2_with fail
      refine (hsumK b1 _ _ HU12.out.i1 (by have := HSS.out; omega)).mono ?_
      rintro e w13 ⟨rfl, hb13⟩
      have HU13 := Lib.hid (HU12.out.below hb13)
      clear hb13 HU12
      go_wp2_with fail
      go_ret
      exact ⟨by simp, HU13.out.bel⟩
end Go.Proofs.Ytjlhckgokdjajaa
