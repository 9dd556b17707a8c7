/- The document's FromHex and FromBase64; the law TextCodes, walked. -/
import Derived.Test.YthdoeaiehajofaaDoorTRB64
import Derived.Test.YthdoeaiehajofaaDoorTLBack
namespace Go.Proofs.YthdoeaiehajofaaDoor
set_option linter.unusedVariables false
set_option maxRecDepth 100000
open Go.RowKit
theorem rd_lt {wide : Nat} (ds : List Nat) : ∀ c ∈ C.rd (C.bitsOf wide ds), c < 256 := by
  intro c hc
  rw [C.rd_eq] at hc
  obtain ⟨q, _, rfl⟩ := List.mem_map.1 hc
  exact C.val8_lt (C.bitsOf_le _ _) q
theorem rd_len {wide : Nat} (ds : List Nat) : (C.rd (C.bitsOf wide ds)).length = wide * ds.length / 8 := by rw [C.rd_eq, List.length_map, List.length_range, C.bitsOf_length]
theorem rhexSW (s : ByteArray) (w : World) (hs : s.size ≤ 67108864) : Calls Tryd.prog 35 #[.string s] w fun e w' => e = .returned (.string (hexS s)) ∧ Below w.heap.size w w' := rhexW s w hs
set_option maxHeartbeats 2000000 in
theorem rFromHexW (s : ByteArray) (w : World) (hs : s.size ≤ 4194304) : Calls Tryd.prog 31 #[.string s] w (FHPost w s C.hexOf 10) := by
  have hr := rreadW s smS 4 w hs (by decide) (by decide) (by decide)
  unfold ReadPost at hr
  rw [bs_sm] at hr
  obtain ⟨R, hR⟩ : ∃ R, R = C.rd (C.bitsOf 4 (C.digs C.sm (bs s))) := ⟨_, rfl⟩
  rw [← hR] at hr
  have HR := Lib.hid hr
  have HRR := Lib.hid hR
  obtain ⟨B, hB⟩ : ∃ B, B = strOf R := ⟨_, rfl⟩
  have hlt : ∀ c ∈ R, c < 256 := by rw [hR]; exact rd_lt _
  have hbs : bs B = R := by rw [hB, bs_strOf R hlt]
  have hBs : B.size ≤ 4194304 := by rw [hB, size_strOf, hR, rd_len]; unfold C.digs; rw [List.length_map, length_bs]; omega
  rw [← hB] at HR
  obtain ⟨X, hX⟩ : ∃ X, X = hexS B := ⟨_, rfl⟩
  have HC : Hid (∀ u, Calls Tryd.prog 35 #[.string B] u fun e w' => e = .returned (.string X) ∧ Below u.heap.size u w') := fun u => by rw [hX]; exact rhexSW B u (by omega)
  have HL := Lib.hid hlt
  have HBB := Lib.hid hB
  by_cases hXs : X = s
  · have hq : (X.toList == s.toList) = true := by rw [hXs]; exact beq_self_eq_true _
    have HE : Hid (bs s = C.hexOf R) := by unfold Hid; rw [← hXs, hX, bs_hexS, hbs]
    clear hXs hX hbs hlt hr hR hB
    go_enter Tryd.func31, Tryd.ntmps31
    go_wp2_with fail
    refine HR.out.mono ?_
    rintro e w1 ⟨hb, ⟨hall, rfl⟩ | ⟨hnot, rfl⟩⟩
    · have HB1 := Lib.hid hb
      clear hb hall
      go_wp2_with fail
      refine (HC.out w1).mono ?_
      rintro e w2 ⟨rfl, hb⟩
      have HB2 := Lib.hid (HB1.out.trans (hb.mono HB1.out.size))
      clear hb
      go_wp2_with fail
      go_ret2
      exact ⟨HB2.out, .inl ⟨R, HL.out, HE.out, by rw [HBB.out]; rfl⟩⟩
    · have HB1 := Lib.hid hb
      have HN : Hid (∀ r, (∀ c ∈ r, c < 256) → bs s ≠ C.hexOf r) := C.hex_not (.inl hnot)
      clear hb hnot
      go_wp2_with fail
      go_ret2
      exact ⟨HB1.out, .inr ⟨HN.out, rfl⟩⟩
  · have hq : (X.toList == s.toList) = false := by rw [toList_beq, decide_eq_false hXs]
    have HN : Hid (∀ r, (∀ c ∈ r, c < 256) → bs s ≠ C.hexOf r) := fun r hr2 e => by
      apply hXs
      have e1 : R = r := by rw [hR, e, C.digs_hex hr2, C.rd_nib r hr2]
      rw [hX]
      apply bs_inj
      rw [bs_hexS, hbs, e1, e]
    clear hXs hX hbs hlt hr hR hB
    go_enter Tryd.func31, Tryd.ntmps31
    go_wp2_with fail
    refine HR.out.mono ?_
    rintro e w1 ⟨hb, ⟨hall, rfl⟩ | ⟨hnot, rfl⟩⟩
    · have HB1 := Lib.hid hb
      clear hb hall
      go_wp2_with fail
      refine (HC.out w1).mono ?_
      rintro e w2 ⟨rfl, hb⟩
      have HB2 := Lib.hid (HB1.out.trans (hb.mono HB1.out.size))
      clear hb
      go_wp2_with fail
      go_ret2
      exact ⟨HB2.out, .inr ⟨HN.out, rfl⟩⟩
    · have HB1 := Lib.hid hb
      clear hb hnot
      go_wp2_with fail
      go_ret2
      exact ⟨HB1.out, .inr ⟨HN.out, rfl⟩⟩
set_option maxHeartbeats 2000000 in
theorem rFromB64W (s : ByteArray) (w : World) (hs : s.size ≤ 4194304) : Calls Tryd.prog 33 #[.string s] w (FHPost w s C.b64Of 11) := by
  have hr := rreadW s ltS 6 w hs (by decide) (by decide) (by decide)
  unfold ReadPost at hr
  rw [bs_lt'] at hr
  obtain ⟨R, hR⟩ : ∃ R, R = C.rd (C.bitsOf 6 (C.digs C.lt (bs s))) := ⟨_, rfl⟩
  rw [← hR] at hr
  have HR := Lib.hid hr
  have HRR := Lib.hid hR
  obtain ⟨B, hB⟩ : ∃ B, B = strOf R := ⟨_, rfl⟩
  have hlt : ∀ c ∈ R, c < 256 := by rw [hR]; exact rd_lt _
  have hbs : bs B = R := by rw [hB, bs_strOf R hlt]
  have hBs : B.size ≤ 4194304 := by rw [hB, size_strOf, hR, rd_len]; unfold C.digs; rw [List.length_map, length_bs]; omega
  rw [← hB] at HR
  obtain ⟨X, hX⟩ : ∃ X, X = b64S B := ⟨_, rfl⟩
  have HC : Hid (∀ u, Calls Tryd.prog 37 #[.string B] u fun e w' => e = .returned (.string X) ∧ Below u.heap.size u w') := fun u => by rw [hX]; exact rb64W B u (by omega)
  have HL := Lib.hid hlt
  have HBB := Lib.hid hB
  by_cases hXs : X = s
  · have hq : (X.toList == s.toList) = true := by rw [hXs]; exact beq_self_eq_true _
    have HE : Hid (bs s = C.b64Of R) := by unfold Hid; rw [← hXs, hX, bs_b64S, hbs]
    clear hXs hX hbs hlt hr hR hB
    go_enter Tryd.func33, Tryd.ntmps33
    go_wp2_with fail
    refine HR.out.mono ?_
    rintro e w1 ⟨hb, ⟨hall, rfl⟩ | ⟨hnot, rfl⟩⟩
    · have HB1 := Lib.hid hb
      clear hb hall
      go_wp2_with fail
      refine (HC.out w1).mono ?_
      rintro e w2 ⟨rfl, hb⟩
      have HB2 := Lib.hid (HB1.out.trans (hb.mono HB1.out.size))
      clear hb
      go_wp2_with fail
      go_ret2
      exact ⟨HB2.out, .inl ⟨R, HL.out, HE.out, by rw [HBB.out]; rfl⟩⟩
    · have HB1 := Lib.hid hb
      have HN : Hid (∀ r, (∀ c ∈ r, c < 256) → bs s ≠ C.b64Of r) := C.b64_not (.inl hnot)
      clear hb hnot
      go_wp2_with fail
      go_ret2
      exact ⟨HB1.out, .inr ⟨HN.out, rfl⟩⟩
  · have hq : (X.toList == s.toList) = false := by rw [toList_beq, decide_eq_false hXs]
    have HN : Hid (∀ r, (∀ c ∈ r, c < 256) → bs s ≠ C.b64Of r) := fun r hr2 e => by
      apply hXs
      have e1 : R = r := by rw [hR, e, C.digs_b64 hr2, C.rd_sext r hr2]
      rw [hX]
      apply bs_inj
      rw [bs_b64S, hbs, e1, e]
    clear hXs hX hbs hlt hr hR hB
    go_enter Tryd.func33, Tryd.ntmps33
    go_wp2_with fail
    refine HR.out.mono ?_
    rintro e w1 ⟨hb, ⟨hall, rfl⟩ | ⟨hnot, rfl⟩⟩
    · have HB1 := Lib.hid hb
      clear hb hall
      go_wp2_with fail
      refine (HC.out w1).mono ?_
      rintro e w2 ⟨rfl, hb⟩
      have HB2 := Lib.hid (HB1.out.trans (hb.mono HB1.out.size))
      clear hb
      go_wp2_with fail
      go_ret2
      exact ⟨HB2.out, .inr ⟨HN.out, rfl⟩⟩
    · have HB1 := Lib.hid hb
      clear hb hnot
      go_wp2_with fail
      go_ret2
      exact ⟨HB1.out, .inr ⟨HN.out, rfl⟩⟩
/-- One answer. -/
theorem fh_one (s : ByteArray) (enc : List Nat → List Nat) (E : Int) (hinj : ∀ a b, (∀ c ∈ a, c < 256) → (∀ c ∈ b, c < 256) → enc a = enc b → a = b) :
    ∃ (x : ByteArray) (y : Int), ∀ w e w', FHPost w s enc E e w' → e = .returned (.tuple #[.string x, .int .i64 y]) ∧ Below w.heap.size w w' := by
  by_cases h : ∃ r, (∀ c ∈ r, c < 256) ∧ bs s = enc r
  · obtain ⟨r, h1, h2⟩ := h
    refine ⟨strOf r, 0, fun w e w' => ?_⟩
    rintro ⟨hb, ⟨r', k1, k2, rfl⟩ | ⟨k1, rfl⟩⟩
    · obtain rfl := hinj r r' h1 k1 (h2.symm.trans k2)
      exact ⟨rfl, hb⟩
    · exact absurd h2 (k1 r h1)
  · refine ⟨⟨#[]⟩, E, fun w e w' => ?_⟩
    rintro ⟨hb, ⟨r', k1, k2, rfl⟩ | ⟨k1, rfl⟩⟩
    · exact absurd ⟨r', k1, k2⟩ h
    · exact ⟨rfl, hb⟩
set_option maxHeartbeats 4000000 in
theorem codesLaw (s : ByteArray) (w : World) (hgl : Glob w) (hs : s.size ≤ 4194304) :
    Calls Tryd.prog 10 #[.string s] w fun e w' => e = .returned (.bool true) ∧ Below w.heap.size w w' := by
  have HG := Lib.hid hgl
  have HLT := Lib.hid hgl.lt
  obtain ⟨xa, ya, h1⟩ := fh_one s C.hexOf 10 (fun a b ha hb h => C.hex_inj ha hb h)
  obtain ⟨xc, yc, h2⟩ := fh_one s C.b64Of 11 (fun a b ha hb h => C.b64_inj ha hb h)
  have C1 : Hid (∀ u, Below w.heap.size w u → Calls Tryd.prog 30 #[.string s] u fun e w' => e = .returned (.tuple #[.string xa, .int .i64 ya]) ∧ Below u.heap.size u w') := fun u hu => (fromHexW s u (HG.out.below hu HLT.out) (by omega)).mono (h1 u)
  have C2 : Hid (∀ u, Calls Tryd.prog 31 #[.string s] u fun e w' => e = .returned (.tuple #[.string xa, .int .i64 ya]) ∧ Below u.heap.size u w') := fun u => (rFromHexW s u hs).mono (h1 u)
  have C3 : Hid (∀ u, Below w.heap.size w u → Calls Tryd.prog 32 #[.string s] u fun e w' => e = .returned (.tuple #[.string xc, .int .i64 yc]) ∧ Below u.heap.size u w') := fun u hu => (fromB64W s u (HG.out.below hu HLT.out) (by omega)).mono (h2 u)
  have C4 : Hid (∀ u, Calls Tryd.prog 33 #[.string s] u fun e w' => e = .returned (.tuple #[.string xc, .int .i64 yc]) ∧ Below u.heap.size u w') := fun u => (rFromB64W s u hs).mono (h2 u)
  obtain ⟨X, hX⟩ : ∃ X, hexS s = X := ⟨_, rfl⟩
  obtain ⟨Y, hY⟩ : ∃ Y, b64S s = Y := ⟨_, rfl⟩
  have C5 : Hid (∀ u, Calls Tryd.prog 34 #[.string s] u fun e w' => e = .returned (.string X) ∧ Below u.heap.size u w') := fun u => by rw [← hX]; exact hexSW s u (by omega)
  have C6 : Hid (∀ u, Calls Tryd.prog 35 #[.string s] u fun e w' => e = .returned (.string X) ∧ Below u.heap.size u w') := fun u => by rw [← hX]; exact rhexSW s u (by omega)
  have C7 : Hid (∀ u, Calls Tryd.prog 36 #[.string s] u fun e w' => e = .returned (.string Y) ∧ Below u.heap.size u w') := fun u => by rw [← hY]; exact b64SW s u (by omega)
  have C8 : Hid (∀ u, Calls Tryd.prog 37 #[.string s] u fun e w' => e = .returned (.string Y) ∧ Below u.heap.size u w') := fun u => by rw [← hY]; exact rb64W s u (by omega)
  clear hgl h1 h2 hX hY
  go_enter Tryd.func10, Tryd.ntmps10
  go_wp2_with fail
  refine (C1.out w (Below.refl _ _)).mono ?_
  rintro e w1 ⟨rfl, hb⟩
  have HB1 := Lib.hid hb
  clear hb
  go_wp2_with fail
  refine (C2.out w1).mono ?_
  rintro e w2 ⟨rfl, hb⟩
  have HB2 := Lib.hid (HB1.out.trans (hb.mono HB1.out.size))
  clear hb
  go_wp2_with fail
  refine (C3.out w2 HB2.out).mono ?_
  rintro e w3 ⟨rfl, hb⟩
  have HB3 := Lib.hid (HB2.out.trans (hb.mono HB2.out.size))
  clear hb
  go_wp2_with fail
  refine (C4.out w3).mono ?_
  rintro e w4 ⟨rfl, hb⟩
  have HB4 := Lib.hid (HB3.out.trans (hb.mono HB3.out.size))
  clear hb
  go_wp2_with fail
  refine (fixedW w4 (HG.out.below HB4.out HLT.out)).mono ?_
  rintro e w5 ⟨rfl, hb⟩
  have HB5 := Lib.hid (HB4.out.trans (hb.mono HB4.out.size))
  clear hb
  go_wp2_with fail
  refine (C5.out w5).mono ?_
  rintro e w6 ⟨rfl, hb⟩
  have HB6 := Lib.hid (HB5.out.trans (hb.mono HB5.out.size))
  clear hb
  go_wp2_with fail
  refine (C6.out w6).mono ?_
  rintro e w7 ⟨rfl, hb⟩
  have HB7 := Lib.hid (HB6.out.trans (hb.mono HB6.out.size))
  clear hb
  go_wp2_with fail
  refine (C7.out w7).mono ?_
  rintro e w8 ⟨rfl, hb⟩
  have HB8 := Lib.hid (HB7.out.trans (hb.mono HB7.out.size))
  clear hb
  go_wp2_with fail
  refine (C8.out w8).mono ?_
  rintro e w9 ⟨rfl, hb⟩
  have HB9 := Lib.hid (HB8.out.trans (hb.mono HB8.out.size))
  clear hb
  go_wp2_with fail
  go_ret
  exact ⟨rfl, HB9.out⟩
end Go.Proofs.YthdoeaiehajofaaDoor
