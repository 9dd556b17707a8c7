/- The law TextBack, walked. -/
import Derived.Test.YthdoeaiehajofaaDoorTFixed
import Derived.Test.YthdoeaiehajofaaDoorTB64
namespace Go.Proofs.YthdoeaiehajofaaDoor
set_option linter.unusedVariables false
set_option maxRecDepth 100000
open Go.RowKit
def hexS (s : ByteArray) : ByteArray := strOf (C.hexOf (bs s))
def b64S (s : ByteArray) : ByteArray := strOf (C.b64Of (bs s))
theorem bs_hexS (s : ByteArray) : bs (hexS s) = C.hexOf (bs s) := bs_strOf _ (C.hexOf_byte _)
theorem bs_b64S (s : ByteArray) : bs (b64S s) = C.b64Of (bs s) := bs_strOf _ (C.b64Of_byte _)
theorem size_hexS (s : ByteArray) : (hexS s).size = 2 * s.size := by unfold hexS; rw [size_strOf, C.hexOf_length, length_bs]
theorem size_b64S (s : ByteArray) : (b64S s).size = (4 * s.size + 2) / 3 := by unfold b64S; rw [size_strOf, C.b64Of_length, length_bs]
theorem hexS_append (a b : ByteArray) : hexS (a ++ b) = hexS a ++ hexS b := by
  apply bs_inj
  rw [bs_hexS, bs_append, bs_append, bs_hexS, bs_hexS, C.hexOf_append]
theorem b64S_append (a b : ByteArray) (h : a.size % 3 = 0) : b64S (a ++ b) = b64S a ++ b64S b := by
  apply bs_inj
  rw [bs_b64S, bs_append, bs_append, bs_b64S, bs_b64S, C.b64Of_three _ _ (by rw [length_bs]; exact h)]
theorem hexSW (s : ByteArray) (w : World) (hs : s.size ≤ 67108864) : Calls Tryd.prog 34 #[.string s] w fun e w' => e = .returned (.string (hexS s)) ∧ Below w.heap.size w w' := hexW s w hs
theorem b64SW (s : ByteArray) (w : World) (hs : s.size ≤ 67108864) : Calls Tryd.prog 36 #[.string s] w fun e w' => e = .returned (.string (b64S s)) ∧ Below w.heap.size w w' := b64W s w hs
theorem fromHexYes (x a : ByteArray) (h : x = hexS a) (w : World) (hgl : Glob w) (hs : x.size ≤ 16777216) : Calls Tryd.prog 30 #[.string x] w fun e w' => e = .returned (.tuple #[.string a, .int .i64 0]) ∧ Below w.heap.size w w' := by
  refine (fromHexW x w hgl hs).mono ?_
  rintro e w' ⟨hb, ⟨r, h1, h2, rfl⟩ | ⟨h1, rfl⟩⟩
  · rw [h, bs_hexS] at h2
    have := C.hex_inj (bs_lt a) h1 h2
    rw [← this, strOf_bs]
    exact ⟨rfl, hb⟩
  · exact absurd (by rw [h, bs_hexS]) (h1 (bs a) (bs_lt a))
theorem fromHexNo (x : ByteArray) (h : ∀ a, x ≠ hexS a) (w : World) (hgl : Glob w) (hs : x.size ≤ 16777216) : Calls Tryd.prog 30 #[.string x] w fun e w' => e = .returned (.tuple #[.string ⟨#[]⟩, .int .i64 10]) ∧ Below w.heap.size w w' := by
  refine (fromHexW x w hgl hs).mono ?_
  rintro e w' ⟨hb, ⟨r, h1, h2, rfl⟩ | ⟨h1, rfl⟩⟩
  · exact absurd (bs_inj (by rw [bs_hexS, bs_strOf r h1, h2])) (h (strOf r))
  · exact ⟨rfl, hb⟩
theorem fromB64Yes (x a : ByteArray) (h : x = b64S a) (w : World) (hgl : Glob w) (hs : x.size ≤ 16777216) : Calls Tryd.prog 32 #[.string x] w fun e w' => e = .returned (.tuple #[.string a, .int .i64 0]) ∧ Below w.heap.size w w' := by
  refine (fromB64W x w hgl hs).mono ?_
  rintro e w' ⟨hb, ⟨r, h1, h2, rfl⟩ | ⟨h1, rfl⟩⟩
  · rw [h, bs_b64S] at h2
    have := C.b64_inj (bs_lt a) h1 h2
    rw [← this, strOf_bs]
    exact ⟨rfl, hb⟩
  · exact absurd (by rw [h, bs_b64S]) (h1 (bs a) (bs_lt a))
theorem fromB64No (x : ByteArray) (h : ∀ a, x ≠ b64S a) (w : World) (hgl : Glob w) (hs : x.size ≤ 16777216) : Calls Tryd.prog 32 #[.string x] w fun e w' => e = .returned (.tuple #[.string ⟨#[]⟩, .int .i64 11]) ∧ Below w.heap.size w w' := by
  refine (fromB64W x w hgl hs).mono ?_
  rintro e w' ⟨hb, ⟨r, h1, h2, rfl⟩ | ⟨h1, rfl⟩⟩
  · exact absurd (bs_inj (by rw [bs_b64S, bs_strOf r h1, h2])) (h (strOf r))
  · exact ⟨rfl, hb⟩
set_option maxHeartbeats 8000000 in
theorem backLaw (a b : ByteArray) (w : World) (hgl : Glob w) (ha : a.size ≤ 1048576) (hb : b.size ≤ 1048576) :
    Calls Tryd.prog 11 #[.string a, .string b] w fun e w' => e = .returned (.bool true) ∧ Below w.heap.size w w' := by
  have HG := Lib.hid hgl
  have HLT := Lib.hid hgl.lt
  obtain ⟨X, hX⟩ : ∃ X, hexS a = X := ⟨_, rfl⟩
  obtain ⟨Y, hY⟩ : ∃ Y, b64S a = Y := ⟨_, rfl⟩
  obtain ⟨X2, hX2⟩ : ∃ X, hexS b = X := ⟨_, rfl⟩
  have hx : X.size = 2 * a.size := by rw [← hX, size_hexS]
  have hy : Y.size = (4 * a.size + 2) / 3 := by rw [← hY, size_b64S]
  have hx2 : X2.size = 2 * b.size := by rw [← hX2, size_hexS]
  have C1 : Hid (∀ u, Calls Tryd.prog 34 #[.string a] u fun e w' => e = .returned (.string X) ∧ Below u.heap.size u w') := fun u => by rw [← hX]; exact hexSW a u (by omega)
  have C2 : Hid (∀ u, Calls Tryd.prog 36 #[.string a] u fun e w' => e = .returned (.string Y) ∧ Below u.heap.size u w') := fun u => by rw [← hY]; exact b64SW a u (by omega)
  have C3 : Hid (∀ u, Below w.heap.size w u → Calls Tryd.prog 30 #[.string X] u fun e w' => e = .returned (.tuple #[.string a, .int .i64 0]) ∧ Below u.heap.size u w') := fun u hu => fromHexYes X a hX.symm u (HG.out.below hu HLT.out) (by omega)
  have C4 : Hid (∀ u, Below w.heap.size w u → Calls Tryd.prog 32 #[.string Y] u fun e w' => e = .returned (.tuple #[.string a, .int .i64 0]) ∧ Below u.heap.size u w') := fun u hu => fromB64Yes Y a hY.symm u (HG.out.below hu HLT.out) (by omega)
  have C5 : Hid (∀ u, Calls Tryd.prog 34 #[.string (a ++ b)] u fun e w' => e = .returned (.string (X ++ X2)) ∧ Below u.heap.size u w') := fun u => by rw [← hX, ← hX2, ← hexS_append]; exact hexSW _ u (by rw [ByteArray.size_append]; omega)
  have C6 : Hid (∀ u, Calls Tryd.prog 34 #[.string b] u fun e w' => e = .returned (.string X2) ∧ Below u.heap.size u w') := fun u => by rw [← hX2]; exact hexSW b u (by omega)
  have l1 : ((X.size : Int) != 2 * (a.size : Int)) = false := by rw [bne_eq_false_iff_eq]; omega
  have l2 : ((Y.size : Int) != (4 * (a.size : Int) + 2) / 3) = false := by rw [bne_eq_false_iff_eq]; omega
  have l3 : ((X.size : Int) == 2 * (a.size : Int)) = true := by rw [beq_iff_eq]; omega
  have l4 : ((Y.size : Int) == (4 * (a.size : Int) + 2) / 3) = true := by rw [beq_iff_eq]; omega
  have z1 : X.size ≤ 2097152 := by omega
  have z2 : X2.size ≤ 2097152 := by omega
  have z3 : Y.size ≤ 2097152 := by omega
  have HSA : Hid (a.size ≤ 1048576) := ha
  clear hgl hX hY hX2 hx hy hx2
  go_enter Tryd.func11, Tryd.ntmps11
  go_wp2_with fail
  refine (C1.out w).mono ?_
  rintro e w1 ⟨rfl, h⟩
  have HB1 := Lib.hid h
  clear h
  go_wp2_with fail
  refine (C2.out w1).mono ?_
  rintro e w2 ⟨rfl, h⟩
  have HB2 := Lib.hid (HB1.out.trans (h.mono HB1.out.size))
  clear h
  go_wp2_with fail
  refine (C3.out w2 HB2.out).mono ?_
  rintro e w3 ⟨rfl, h⟩
  have HB3 := Lib.hid (HB2.out.trans (h.mono HB2.out.size))
  clear h
  go_wp2_with fail
  refine (C4.out w3 HB3.out).mono ?_
  rintro e w4 ⟨rfl, h⟩
  have HB4 := Lib.hid (HB3.out.trans (h.mono HB3.out.size))
  clear h
  go_wp2_with fail
  refine (fixedW w4 (HG.out.below HB4.out HLT.out)).mono ?_
  rintro e w5 ⟨rfl, h⟩
  have HB5 := Lib.hid (HB4.out.trans (h.mono HB4.out.size))
  clear h
  go_wp2_with fail
  refine (C5.out w5).mono ?_
  rintro e w6 ⟨rfl, h⟩
  have HB6 := Lib.hid (HB5.out.trans (h.mono HB5.out.size))
  clear h
  go_wp2_with fail
  refine (C6.out w6).mono ?_
  rintro e w7 ⟨rfl, h⟩
  have HB7 := Lib.hid (HB6.out.trans (h.mono HB6.out.size))
  clear h
  go_wp2_with fail
  clear l1 l2 l3 l4
  go_loop [0] (fun v0 => ∃ r : ByteArray, v0 = .string r ∧ r.size + (3 - r.size % 3) % 3 = a.size + (3 - a.size % 3) % 3) (fun v0 => (match v0 with | .string r => (3 - r.size % 3) % 3 | _ => 0))
  case atStart => exact ⟨a, rfl, rfl⟩
  case round =>
    obtain ⟨r, rfl, hr⟩ := hrel
    have HR := Lib.hid hr
    have hrs : r.size ≤ 1048578 := by have := HSA.out; omega
    clear hr
    by_cases h3 : r.size % 3 = 0
    · have m1 : ((r.size : Int) % 3 != 0) = false := by rw [bne_eq_false_iff_eq]; omega
      have m2 : ((r.size : Int).tmod 3 != 0) = false := by rw [Int.tmod_eq_emod_of_nonneg (by omega), bne_eq_false_iff_eq]; omega
      have m3 : ((r.size : Int) % 3 == 0) = true := by rw [beq_iff_eq]; omega
      obtain ⟨Y1, hY1⟩ : ∃ Y, b64S r = Y := ⟨_, rfl⟩
      obtain ⟨Y2, hY2⟩ : ∃ Y, b64S b = Y := ⟨_, rfl⟩
      have hy1 : Y1.size ≤ 2097152 := by rw [← hY1, size_b64S]; omega
      have hy2 : Y2.size ≤ 2097152 := by rw [← hY2, size_b64S]; omega
      have D1 : Hid (∀ u, Calls Tryd.prog 36 #[.string (r ++ b)] u fun e w' => e = .returned (.string (Y1 ++ Y2)) ∧ Below u.heap.size u w') := fun u => by rw [← hY1, ← hY2, ← b64S_append r b h3]; exact b64SW _ u (by rw [ByteArray.size_append]; omega)
      have D2 : Hid (∀ u, Calls Tryd.prog 36 #[.string r] u fun e w' => e = .returned (.string Y1) ∧ Below u.heap.size u w') := fun u => by rw [← hY1]; exact b64SW r u (by omega)
      have D3 : Hid (∀ u, Calls Tryd.prog 36 #[.string b] u fun e w' => e = .returned (.string Y2) ∧ Below u.heap.size u w') := fun u => by rw [← hY2]; exact b64SW b u (by omega)
      clear h3 hY1 hY2
      go_wp2_with fail
      refine (D1.out w7).mono ?_
      rintro e w8 ⟨rfl, h⟩
      have HB8 := Lib.hid (HB7.out.trans (h.mono HB7.out.size))
      clear h
      go_wp2_with fail
      refine (D2.out w8).mono ?_
      rintro e w9 ⟨rfl, h⟩
      have HB9 := Lib.hid (HB8.out.trans (h.mono HB8.out.size))
      clear h
      go_wp2_with fail
      refine (D3.out w9).mono ?_
      rintro e wA ⟨rfl, h⟩
      have HBA := Lib.hid (HB9.out.trans (h.mono HB9.out.size))
      clear h
      go_wp2_with fail
      by_cases hh : ∃ p, b = hexS p
      · obtain ⟨p, hp⟩ := hh
        have hps : p.size ≤ 1048576 := by have := size_hexS p; rw [← hp] at this; omega
        have E1 : Hid (Calls Tryd.prog 30 #[.string b] wA fun e w' => e = .returned (.tuple #[.string p, .int .i64 0]) ∧ Below wA.heap.size wA w') := fromHexYes b p hp wA (HG.out.below HBA.out HLT.out) (by omega)
        have E2 : Hid (∀ u, Calls Tryd.prog 34 #[.string p] u fun e w' => e = .returned (.string b) ∧ Below u.heap.size u w') := fun u => (hexSW p u (by omega)).mono fun e w' h => ⟨by rw [h.1, ← hp], h.2⟩
        clear hp
        refine E1.out.mono ?_
        rintro e wB ⟨rfl, h⟩
        have HBB := Lib.hid (HBA.out.trans (h.mono HBA.out.size))
        clear h
        go_wp2_with fail
        by_cases hq : ∃ q, b = b64S q
        · obtain ⟨q, hq⟩ := hq
          have hqs : q.size ≤ 1048576 := by have := size_b64S q; rw [← hq] at this; omega
          have F1 : Hid (Calls Tryd.prog 32 #[.string b] wB fun e w' => e = .returned (.tuple #[.string q, .int .i64 0]) ∧ Below wB.heap.size wB w') := fromB64Yes b q hq wB (HG.out.below HBB.out HLT.out) (by omega)
          have F2 : Hid (∀ u, Calls Tryd.prog 36 #[.string q] u fun e w' => e = .returned (.string b) ∧ Below u.heap.size u w') := fun u => (b64SW q u (by omega)).mono fun e w' h => ⟨by rw [h.1, ← hq], h.2⟩
          clear hq
          refine F1.out.mono ?_
          rintro e wC ⟨rfl, h⟩
          have HBC := Lib.hid (HBB.out.trans (h.mono HBB.out.size))
          clear h
          go_wp2_with fail
          refine (E2.out wC).mono ?_
          rintro e wD ⟨rfl, h⟩
          have HBD := Lib.hid (HBC.out.trans (h.mono HBC.out.size))
          clear h
          go_wp2_with fail
          refine (F2.out wD).mono ?_
          rintro e wE ⟨rfl, h⟩
          have HBE := Lib.hid (HBD.out.trans (h.mono HBD.out.size))
          clear h
          go_wp2_with fail
          go_ret
          exact ⟨rfl, HBE.out⟩
        · have F1 : Hid (Calls Tryd.prog 32 #[.string b] wB fun e w' => e = .returned (.tuple #[.string ⟨#[]⟩, .int .i64 11]) ∧ Below wB.heap.size wB w') := fromB64No b (fun q e => hq ⟨q, e⟩) wB (HG.out.below HBB.out HLT.out) (by omega)
          clear hq
          refine F1.out.mono ?_
          rintro e wC ⟨rfl, h⟩
          have HBC := Lib.hid (HBB.out.trans (h.mono HBB.out.size))
          clear h
          go_wp2_with fail
          refine (E2.out wC).mono ?_
          rintro e wD ⟨rfl, h⟩
          have HBD := Lib.hid (HBC.out.trans (h.mono HBC.out.size))
          clear h
          go_wp2_with fail
          go_ret
          exact ⟨rfl, HBD.out⟩
      · have E1 : Hid (Calls Tryd.prog 30 #[.string b] wA fun e w' => e = .returned (.tuple #[.string ⟨#[]⟩, .int .i64 10]) ∧ Below wA.heap.size wA w') := fromHexNo b (fun p e => hh ⟨p, e⟩) wA (HG.out.below HBA.out HLT.out) (by omega)
        clear hh
        refine E1.out.mono ?_
        rintro e wB ⟨rfl, h⟩
        have HBB := Lib.hid (HBA.out.trans (h.mono HBA.out.size))
        clear h
        go_wp2_with fail
        by_cases hq : ∃ q, b = b64S q
        · obtain ⟨q, hq⟩ := hq
          have hqs : q.size ≤ 1048576 := by have := size_b64S q; rw [← hq] at this; omega
          have F1 : Hid (Calls Tryd.prog 32 #[.string b] wB fun e w' => e = .returned (.tuple #[.string q, .int .i64 0]) ∧ Below wB.heap.size wB w') := fromB64Yes b q hq wB (HG.out.below HBB.out HLT.out) (by omega)
          have F2 : Hid (∀ u, Calls Tryd.prog 36 #[.string q] u fun e w' => e = .returned (.string b) ∧ Below u.heap.size u w') := fun u => (b64SW q u (by omega)).mono fun e w' h => ⟨by rw [h.1, ← hq], h.2⟩
          clear hq
          refine F1.out.mono ?_
          rintro e wC ⟨rfl, h⟩
          have HBC := Lib.hid (HBB.out.trans (h.mono HBB.out.size))
          clear h
          go_wp2_with fail
          refine (F2.out wC).mono ?_
          rintro e wE ⟨rfl, h⟩
          have HBE := Lib.hid (HBC.out.trans (h.mono HBC.out.size))
          clear h
          go_wp2_with fail
          go_ret
          exact ⟨rfl, HBE.out⟩
        · have F1 : Hid (Calls Tryd.prog 32 #[.string b] wB fun e w' => e = .returned (.tuple #[.string ⟨#[]⟩, .int .i64 11]) ∧ Below wB.heap.size wB w') := fromB64No b (fun q e => hq ⟨q, e⟩) wB (HG.out.below HBB.out HLT.out) (by omega)
          clear hq
          refine F1.out.mono ?_
          rintro e wC ⟨rfl, h⟩
          have HBC := Lib.hid (HBB.out.trans (h.mono HBB.out.size))
          clear h
          go_wp2_with fail
          go_ret
          exact ⟨rfl, HBC.out⟩
    · have m1 : ((r.size : Int) % 3 != 0) = true := by rw [bne_iff_ne]; omega
      have m2 : ((r.size : Int).tmod 3 != 0) = true := by rw [Int.tmod_eq_emod_of_nonneg (by omega), bne_iff_ne]; omega
      have m3 : ((r.size : Int) % 3 == 0) = false := by rw [beq_eq_false_iff_ne]; omega
      have HN3 := Lib.hid h3
      clear h3
      go_wp2_with fail
      go_round
      case rel => exact ⟨r ++ ⟨#[46]⟩, rfl, by rw [ByteArray.size_append, show (⟨#[46]⟩ : ByteArray).size = 1 from rfl]; have := HN3.out; have := HR.out; omega⟩
      case measure => show (3 - (r ++ ⟨#[46]⟩).size % 3) % 3 < (3 - r.size % 3) % 3; rw [ByteArray.size_append, show (⟨#[46]⟩ : ByteArray).size = 1 from rfl]; have := HN3.out; omega
end Go.Proofs.YthdoeaiehajofaaDoor
