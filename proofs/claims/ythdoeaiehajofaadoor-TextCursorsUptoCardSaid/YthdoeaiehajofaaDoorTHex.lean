/- The program's Hex and the document's Hex. -/
import Derived.Test.YthdoeaiehajofaaDoorTCode
import Derived.Test.YthdoeaiehajofaaDoorTBld
namespace Go.Proofs.YthdoeaiehajofaaDoor
set_option linter.unusedVariables false
set_option maxRecDepth 100000
open Go.RowKit
def smS : ByteArray := ⟨#[48, 49, 50, 51, 52, 53, 54, 55, 56, 57, 97, 98, 99, 100, 101, 102]⟩
def ltS : ByteArray := ⟨#[65, 66, 67, 68, 69, 70, 71, 72, 73, 74, 75, 76, 77, 78, 79, 80, 81, 82, 83, 84, 85, 86, 87, 88, 89, 90, 97, 98, 99, 100, 101, 102, 103, 104, 105, 106, 107, 108, 109, 110, 111, 112, 113, 114, 115, 116, 117, 118, 119, 120, 121, 122, 48, 49, 50, 51, 52, 53, 54, 55, 56, 57, 45, 95]⟩
theorem bs_sm : bs smS = C.sm := by rfl
theorem bs_lt' : bs ltS = C.lt := by rfl
/-- A byte of a string. -/
theorem idxS (S : ByteArray) (k : IntKind) (z : Int) (d : Nat) (hz : z = d) (h : d < S.size) (w : World) : (Instr.index 9 (.string S) (.int k z)).run Tryd.prog w = .ok (.int .u8 ((bs S).getD d 0 : Nat)) w := by
  subst hz
  rw [run_index_string w 9 S k (d : Int) Tryd.underlying9, dif_pos ⟨by omega, by omega⟩]
  congr 2
  exact congrArg Int.ofNat (get_bs S d h)
theorem idxSm (k : IntKind) (z : Int) (d : Nat) (hz : z = d) (h : d < 16) (w : World) : (Instr.index 9 (.string ⟨#[48, 49, 50, 51, 52, 53, 54, 55, 56, 57, 97, 98, 99, 100, 101, 102]⟩) (.int k z)).run Tryd.prog w = .ok (.int .u8 (C.sm.getD d 0 : Nat)) w := by
  rw [← bs_sm]; exact idxS smS k z d hz h w
theorem idxLt (k : IntKind) (z : Int) (d : Nat) (hz : z = d) (h : d < 64) (w : World) : (Instr.index 9 (.string ltS) (.int k z)).run Tryd.prog w = .ok (.int .u8 (C.lt.getD d 0 : Nat)) w := by
  rw [← bs_lt']; exact idxS ltS k z d hz h w
theorem getD_lt_bs (s : ByteArray) (i : Nat) : (bs s).getD i 0 < 256 := U.getD_lt (bs_lt s) i
theorem hexOf_take (l : List Nat) (i : Nat) (h : i < l.length) : C.hexOf (l.take (i + 1)) = C.hexOf (l.take i) ++ [C.sm.getD (l.getD i 0 / 16) 0, C.sm.getD (l.getD i 0 % 16) 0] := by
  rw [take_succ_lt l i h 0, C.hexOf_append]; simp [C.hexOf, C.nib]
set_option maxHeartbeats 1000000 in
theorem hexW (s : ByteArray) (w : World) (hs : s.size ≤ 67108864) : Calls Tryd.prog 34 #[.string s] w fun e w' => e = .returned (.string (strOf (C.hexOf (bs s)))) ∧ Below w.heap.size w w' := by
  obtain ⟨b, hb⟩ : ∃ b, b = w.heap.size := ⟨_, rfl⟩
  have HB0 := Lib.hid hb
  go_enter Tryd.func34, Tryd.ntmps34
  go_wp2_with fail
  rw [← hb]
  clear hb
  go_loopw [4] (fun v wr => ∃ i : Nat, i ≤ s.size ∧ v = .int .i64 (i : Nat) ∧ Bld wr w.heap.size b (C.hexOf ((bs s).take i)) ∧ Below w.heap.size w wr) (fun v _ => (s.size - intOf v).toNat)
  case atStart =>
    refine ⟨0, by omega, rfl, ?_, (Below.refl _ _).alloc (Nat.le_refl _) _⟩
    rw [HB0.out]; exact Bld.new w _ (Nat.le_refl _)
  case round =>
    obtain ⟨i, hi, rfl, hbl, hbe⟩ := hrel
    have HL := Lib.hid hbl
    have HE := Lib.hid hbe
    clear hbl hbe
    by_cases hlt : i < s.size
    · obtain ⟨x, hx⟩ : ∃ x, s[i].toNat = x := ⟨_, rfl⟩
      have bx : x < 256 := by rw [← hx]; exact UInt8.toNat_lt _
      have HX : Hid ((bs s).getD i 0 = x) := by unfold Hid; rw [← hx, get_bs s i hlt]
      have i1 := fun w => idxSm .u8 ((x : Int) / 16) (x / 16) (by omega) (by omega) w
      have i2 := fun w => idxSm .u8 ((x : Int) % 16) (x % 16) (by omega) (by omega) w
      have hlen : (C.hexOf ((bs s).take i)).length ≤ 134217728 := by rw [C.hexOf_length, List.length_take]; omega
      have HLEN := Lib.hid hlen
      have HT := Lib.hid (hexOf_take (bs s) i (by rw [length_bs]; exact hlt))
      rw [HX.out] at HT
      have HS := Lib.hid HE.out.size
      clear hlen
      go_wp2_with fail
      refine (writeByteW _ _ HL.out (by have := HLEN.out; omega) HS.out).mono ?_
      rintro e w1 ⟨rfl, h1, h2⟩
      have H1 := Lib.hid h1
      have H2 := Lib.hid (HE.out.trans h2)
      clear h1 h2
      go_wp2_with fail
      refine (writeByteW _ _ H1.out (by rw [List.length_append]; have := HLEN.out; simp; omega) H2.out.size).mono ?_
      rintro e w2 ⟨rfl, h1, h2⟩
      have H3 := Lib.hid h1
      have H4 := Lib.hid (H2.out.trans h2)
      clear h1 h2
      go_wp2_with fail
      refine ⟨⟨i + 1, by omega, rfl, ?_, H4.out⟩, by simp [intOf]; omega⟩
      rw [HT.out]
      have := H3.out
      rw [List.append_assoc] at this
      exact this
    · have e : (bs s).take i = bs s := List.take_of_length_le (by rw [length_bs]; omega)
      rw [e] at HL
      clear e
      go_wp2_with fail
      refine (stringW _ HL.out (C.hexOf_byte _) HE.out.size).mono ?_
      rintro e w1 ⟨rfl, h2⟩
      have H2 := Lib.hid (HE.out.trans h2)
      clear h2
      go_wp2_with fail
      go_ret
      exact ⟨rfl, H2.out⟩
end Go.Proofs.YthdoeaiehajofaaDoor
