/- The program's numbers: each character's in an alphabet. -/
import Derived.Test.YthdoeaiehajofaaDoorTSameS
namespace Go.Proofs.YthdoeaiehajofaaDoor
set_option linter.unusedVariables false
set_option maxRecDepth 20000
open Go.RowKit
theorem madeU8_row (n : Nat) : madeCells #[Value.int .u8 0] n = (rowOf .u8 n (fun _ => 0)).toArray := by
  refine Array.ext_getElem? fun j => ?_
  by_cases hj : j < n
  · have h2 : (rowOf IntKind.u8 n (fun _ => 0)).toArray[j]? = some (.int .u8 0) := by rw [List.getElem?_toArray, getElem?_rowOf _ _ _ j hj]; rfl
    rw [h2]; simp [madeCells, hj, Nat.mod_one]
  · have h2 : (rowOf IntKind.u8 n (fun _ => 0)).toArray[j]? = none := by rw [List.getElem?_toArray, List.getElem?_eq_none (by rw [length_rowOf]; omega)]
    rw [h2, Array.getElem?_eq_none (by rw [size_madeCells]; omega)]
theorem makeU8 (u : World) (n : Nat) (hn : n ≤ 1099511627776) : (Instr.makeSlice 36 (.int .i64 (n : Int)) (.int .i64 (n : Int))).run Tryd.prog u = .ok (.slice (some ⟨u.heap.size, 0, none⟩) n n) (u.alloc (.cells (rowOf .u8 n (fun _ => 0)).toArray 5)) := by
  obtain ⟨i0, hi0, hz0, hz1, hz2⟩ := info_parts infoU8
  have h := run_make (P := Tryd.prog) u 36 5 i0 (.int .u8 0) Tryd.underlying36 hi0 hz0 .i64 .i64 (n : Int) (n : Int) (by omega) (by omega) (by rw [hz2]; omega) (by omega)
  rw [hz1] at h
  rw [← madeU8_row]
  simpa [Value.cells] using h
def NPost (w : World) (s al : ByteArray) (E : Int) (ev : Ending) (w' : World) : Prop := Below w.heap.size w w' ∧
  (((∀ j, j < s.size → (bs al).idxOf ((bs s).getD j 0) < al.size) ∧ ∃ g, ev = .returned (.tuple #[.slice (some ⟨g, 0, none⟩) s.size s.size, .nilIface]) ∧ w.heap.size ≤ g ∧ Row w' g 5 .u8 s.size (fun j => (bs al).idxOf ((bs s).getD j 0))) ∨
   ((∃ j, j < s.size ∧ ¬ (bs al).idxOf ((bs s).getD j 0) < al.size) ∧ ∃ p, ev = .returned (.tuple #[.slice none 0 0, TErr p E])))
set_option maxHeartbeats 1000000 in
theorem numbersW (s al : ByteArray) (E : Int) (w : World) (hgl : Glob w) (hs : s.size ≤ 16777216) (hal : al.size ≤ 255) : Calls Tryd.prog 46 #[.string s, .string al, .int .i64 E] w (NPost w s al E) := by
  have hmk := makeU8 w s.size (by omega)
  have HG := Lib.hid hgl
  obtain ⟨g, hg⟩ : ∃ g, g = w.heap.size := ⟨_, rfl⟩
  have HGG := Lib.hid hg
  clear hgl
  go_enter Tryd.func46, Tryd.ntmps46
  go_wp2_with fail
  rw [← hg]
  clear hmk hg
  go_loopw [16] (fun v wr => ∃ i : Nat, i ≤ s.size ∧ v = .int .i64 (i : Nat) ∧ (∀ j, j < i → (bs al).idxOf ((bs s).getD j 0) < al.size) ∧ Below w.heap.size w wr ∧ Row wr g 5 .u8 s.size (fun j => if j < i then (bs al).idxOf ((bs s).getD j 0) else 0)) (fun v _ => (s.size - intOf v).toNat)
  case atStart =>
    refine ⟨0, by omega, rfl, fun j hj => by omega, (Below.refl _ _).alloc (Nat.le_refl _) _, ?_⟩
    rw [HGG.out]
    exact (Row.new w 5 .u8 s.size (fun _ => 0) _ rfl).congr (fun j hj => by simp)
  case round =>
    obtain ⟨i, hi, rfl, hok, hb, hr⟩ := hrel
    have HB := Lib.hid hb
    have HOK := Lib.hid hok
    have HR := Lib.hid hr
    by_cases hlt : i < s.size
    · obtain ⟨x, hx⟩ : ∃ x, s[i].toNat = x := ⟨_, rfl⟩
      have bx : x < 256 := by rw [← hx]; exact UInt8.toNat_lt _
      have HX : Hid ((bs s).getD i 0 = x) := by unfold Hid; rw [← hx, get_bs s i hlt]
      obtain ⟨n, hn⟩ : ∃ n, n = (bs al).idxOf x := ⟨_, rfl⟩
      have HN := Lib.hid hn
      have hI : ∀ w, Calls Tryd.prog 45 #[.string al, .int .u8 (x : Nat)] w fun e w' => e = .returned (.int .i64 (if n < al.size then (n : Int) else -1)) ∧ w' = w := fun w => by
        refine (Tryd.strings_IndexByte al (x : Nat) w).mono fun e w' he => ?_
        rw [show ((x : Int)).toNat = x from Int.toNat_natCast x, indexByte_bs al x bx, ← hn] at he
        exact he
      have c0 := hr.cell hlt
      have f0 := hr.free i
      have hbd := hb.size
      clear hok hb hr hn
      by_cases hin : n < al.size
      · simp only [if_pos hin] at hI
        have HI := Lib.hid hI
        have HIN := Lib.hid hin
        have hn255 : n ≤ 255 := by omega
        have hrs := HR.out.set hlt n
        have HRS : Hid (Row (wr.setCell ⟨g, i, none⟩ (.int .u8 (n : Int))) g 5 .u8 s.size (fun j => if j < i + 1 then (bs al).idxOf ((bs s).getD j 0) else 0)) := hrs.congr (fun j hj => by
          by_cases e : j = i
          · subst e; rw [if_pos rfl, if_pos (by omega), HX.out, ← HN.out]
          · rw [if_neg e]
            by_cases e2 : j < i
            · rw [if_pos e2, if_pos (by omega)]
            · rw [if_neg e2, if_neg (by omega)])
        have HBS : Hid (Below w.heap.size w (wr.setCell ⟨g, i, none⟩ (.int .u8 (n : Int)))) := HB.out.setCell (by rw [HGG.out]; exact Nat.le_refl _) _
        clear hI hin hrs
        go_wp2_with (go_at_call 45; refine (HI.out _).mono ?_; rintro e w' ⟨rfl, rfl⟩)
        refine ⟨⟨i + 1, by omega, rfl, fun j hj => ?_, HBS.out, HRS.out⟩, by simp [intOf]; omega⟩
        by_cases e : j = i
        · subst e; rw [HX.out, ← HN.out]; exact HIN.out
        · exact HOK.out j (by omega)
      · simp only [if_neg hin] at hI
        have HI := Lib.hid hI
        have HIN := Lib.hid hin
        have HA : Hid (∀ w0, w0 = wr → Calls Tryd.prog 47 #[.int .i64 (i : Nat), .int .i64 E] w0 fun ev w' => (∃ s, ev = .returned (TErr s E)) ∧ Below w0.heap.size w0 w') := fun w0 e => by
          subst e
          exact atW (i : Nat) E (by omega) (by omega) _ (HG.out.below HB.out HG.out.lt)
        have HW2 : Hid (w.heap.size ≤ wr.heap.size) := HB.out.size
        clear hI hin
        go_wp2_with (first | (go_at_call 45; refine (HI.out _).mono ?_; rintro e w' ⟨rfl, rfl⟩) | (go_at_call 47; refine (HA.out _ rfl).mono ?_; rintro e w5 ⟨⟨p, rfl⟩, hb5⟩))
        go_ret2
        exact ⟨HB.out.trans (hb5.mono HB.out.size), .inr ⟨⟨i, hlt, by rw [HX.out, ← HN.out]; exact HIN.out⟩, p, rfl⟩⟩
    · have hie : i = s.size := by omega
      clear hok hb hr
      go_wp2_with fail
      go_ret2
      exact ⟨HB.out, .inl ⟨fun j hj => HOK.out j (by omega), g, rfl, by rw [HGG.out]; exact Nat.le_refl _, HR.out.congr (fun j hj => by rw [if_pos (by omega)])⟩⟩
end Go.Proofs.YthdoeaiehajofaaDoor
