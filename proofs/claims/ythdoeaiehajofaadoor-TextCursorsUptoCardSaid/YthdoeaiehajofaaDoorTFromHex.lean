/- The program's FromHex. -/
import Derived.Test.YthdoeaiehajofaaDoorTHex
import Derived.Test.YthdoeaiehajofaaDoorLoose
import Derived.StillTailTactics
import Derived.IntWalk
namespace Go.Proofs.YthdoeaiehajofaaDoor
set_option linter.unusedVariables false
set_option maxRecDepth 100000
open Go.RowKit
theorem digs_range (l al : List Nat) : (List.range l.length).map (fun j => al.idxOf (l.getD j 0)) = C.digs al l := by
  refine List.ext_getElem? fun j => ?_
  unfold C.digs
  rw [List.getElem?_map, List.getElem?_map]
  by_cases h : j < l.length
  · rw [List.getElem?_range h, List.getElem?_eq_getElem h]
    simp [List.getD_eq_getElem?_getD, List.getElem?_eq_getElem h]
  · rw [List.getElem?_eq_none (by simp; omega), List.getElem?_eq_none (by omega)]; rfl
theorem all_in {l al : List Nat} (h : ∀ j, j < l.length → al.idxOf (l.getD j 0) < al.length) : ∀ c ∈ l, al.idxOf c < al.length := by
  intro c hc
  obtain ⟨j, hj, rfl⟩ := List.getElem_of_mem hc
  have := h j hj
  rwa [List.getD_eq_getElem?_getD, List.getElem?_eq_getElem hj] at this
theorem not_in {l al : List Nat} (h : ∃ j, j < l.length ∧ ¬ al.idxOf (l.getD j 0) < al.length) : ∃ c ∈ l, ¬ al.idxOf c < al.length := by
  obtain ⟨j, hj, h⟩ := h
  refine ⟨l[j], List.getElem_mem _, ?_⟩
  rwa [List.getD_eq_getElem?_getD, List.getElem?_eq_getElem hj] at h
theorem pairs_length : ∀ l : List Nat, (C.pairs l).length = l.length / 2
  | [] => rfl
  | [_] => by simp [C.pairs]
  | a :: b :: t => by rw [C.pairs, List.length_cons, pairs_length t, List.length_cons, List.length_cons]; omega
theorem pairs_getD : ∀ (l : List Nat) (j : Nat), j < l.length / 2 → (C.pairs l).getD j 0 = l.getD (2 * j) 0 * 16 + l.getD (2 * j + 1) 0
  | [], j, h => by simp at h
  | [_], j, h => by simp at h
  | a :: b :: t, 0, h => by simp [C.pairs]
  | a :: b :: t, j + 1, h => by
    rw [C.pairs, show 2 * (j + 1) = 2 * j + 1 + 1 by omega]
    simp only [List.getD_cons_succ]
    exact pairs_getD t j (by simp at h; omega)
def FHPost (w : World) (s : ByteArray) (enc : List Nat → List Nat) (E : Int) (e : Ending) (w' : World) : Prop := Below w.heap.size w w' ∧
  ((∃ r, (∀ c ∈ r, c < 256) ∧ bs s = enc r ∧ e = .returned (.tuple #[.string (strOf r), .int .i64 0])) ∨
   ((∀ r, (∀ c ∈ r, c < 256) → bs s ≠ enc r) ∧ e = .returned (.tuple #[.string ⟨#[]⟩, .int .i64 E])))
set_option maxHeartbeats 2000000 in
theorem fromHexW (s : ByteArray) (w : World) (hgl : Glob w) (hs : s.size ≤ 16777216) : Calls Tryd.prog 30 #[.string s] w (FHPost w s C.hexOf 10) := by
  have HN := Lib.hid (numbersW s smS 10 w hgl hs (by decide))
  have HG := Lib.hid hgl
  clear hgl
  obtain ⟨n, hn⟩ : ∃ n, n = s.size := ⟨_, rfl⟩
  unfold NPost at HN
  rw [← hn] at HN hs
  have hln : (bs s).length = n := by rw [length_bs, hn]
  have HLN := Lib.hid hln
  clear hn hln
  rw [bs_sm, show smS.size = C.sm.length from rfl] at HN
  go_enter Tryd.func30, Tryd.ntmps30
  go_wp2_with fail
  refine HN.out.mono ?_
  rintro e w1 ⟨hb, ⟨hall, g, rfl, hg, hrow⟩ | ⟨hnot, p, rfl⟩⟩
  · have HB := Lib.hid hb
    have HA : Hid (∀ c ∈ bs s, C.sm.idxOf c < C.sm.length) := all_in (by rw [HLN.out]; exact hall)
    obtain ⟨f, hf⟩ : ∃ f, f = fun j => C.sm.idxOf ((bs s).getD j 0) := ⟨_, rfl⟩
    rw [← hf] at hrow
    have HR := Lib.hid hrow
    have HF := Lib.hid hf
    have HD : Hid (C.digs C.sm (bs s) = (List.range n).map f) := by unfold Hid; rw [HF.out, ← HLN.out, digs_range]
    have hflt : ∀ j, j < n → f j < 16 := fun j hj => by rw [HF.out]; exact hall j hj
    have HFL := Lib.hid hflt
    clear hb hall hrow hf hflt
    by_cases hpar : n % 2 = 1
    · have t1 : ((n : Int) % 2 == 1) = true := by rw [beq_iff_eq]; omega
      have t2 : ((n : Int).tmod 2 == 1) = true := by rw [Int.tmod_eq_emod_of_nonneg (by omega), beq_iff_eq]; omega
      have HX : Hid (∀ r, (∀ c ∈ r, c < 256) → bs s ≠ C.hexOf r) := C.hex_not (.inr (by rw [HLN.out]; exact hpar))
      have HAT := Lib.hid (atW (n : Int) 10 (by omega) (by omega) w1 (HG.out.below HB.out HG.out.lt))
      clear hpar
      go_wp2_with fail
      refine HAT.out.mono ?_
      rintro e w2 ⟨⟨p, rfl⟩, hb2⟩
      have HB2 := Lib.hid (HB.out.trans (hb2.mono HB.out.size))
      clear hb2
      have HT := Lib.hid (toldW p 10 w2 (HG.out.below HB2.out HG.out.lt))
      unfold TErr at HT ⊢
      go_wp2_with fail
      refine HT.out.mono ?_
      rintro e w3 ⟨rfl, hb3⟩
      have HB3 := Lib.hid (HB2.out.trans (hb3.mono HB2.out.size))
      clear hb3
      go_wp2_with fail
      go_ret2
      exact ⟨HB3.out, .inr ⟨HX.out, rfl⟩⟩
    · have t1 : ((n : Int) % 2 == 1) = false := by rw [beq_eq_false_iff_ne]; omega
      have t2 : ((n : Int).tmod 2 == 1) = false := by rw [Int.tmod_eq_emod_of_nonneg (by omega), beq_eq_false_iff_ne]; omega
      obtain ⟨h, hh⟩ : ∃ h, n = 2 * h := ⟨n / 2, by omega⟩
      have e1 : (n : Int) / 2 = (h : Int) := by omega
      have e2 : (n : Int).tdiv 2 = (h : Int) := by rw [Int.tdiv_eq_ediv_of_nonneg (by omega)]; omega
      have hmk := makeU8 w1 h (by omega)
      obtain ⟨r, hr⟩ : ∃ r, r = C.pairs (C.digs C.sm (bs s)) := ⟨_, rfl⟩
      have HRL : Hid (r.length = h) := by unfold Hid; rw [hr, pairs_length]; unfold C.digs; rw [List.length_map, HLN.out]; omega
      have HRG : Hid (∀ j, j < h → r.getD j 0 = f (2 * j) * 16 + f (2 * j + 1)) := fun j hj => by
        rw [hr, pairs_getD _ _ (by unfold C.digs; rw [List.length_map, HLN.out]; omega), HD.out, getD_range _ _ _ (by omega), getD_range _ _ _ (by omega)]
      have HX := Lib.hid (C.hex_of HA.out (by rw [HLN.out]; omega))
      rw [← hr] at HX
      have HH := Lib.hid hh
      obtain ⟨gb, hgb⟩ : ∃ gb, gb = w1.heap.size := ⟨_, rfl⟩
      rw [← hgb] at hmk
      have HGB := Lib.hid hgb
      have hh2 : h ≤ 16777216 := by omega
      clear hpar hh hr hgb
      go_wp2_with fail
      clear hmk
      go_loopw [7, 34] (fun v7 v34 wr => ∃ i : Nat, i ≤ h ∧ v34 = .int .i64 (i : Nat) ∧ Row wr gb 5 .u8 h (fun j => if j < i then r.getD j 0 else 0) ∧ Below w1.heap.size w1 wr) (fun _ v _ => (h - intOf v).toNat)
      case atStart =>
        refine ⟨0, by omega, rfl, ?_, (Below.refl _ _).alloc (Nat.le_refl _) _⟩
        rw [HGB.out]
        exact (Row.new w1 5 .u8 h (fun _ => 0) _ rfl).congr (fun j hj => by simp)
      case round =>
        obtain ⟨i, hi, rfl, hrb, hbe⟩ := hrel
        have HRB := Lib.hid hrb
        have HE := Lib.hid hbe
        by_cases hlt : i < h
        · have HR2 := Lib.hid (HR.out.below hbe HR.out.lt)
          have c0 := HR2.out.cell (j := 2 * i) (by have := HH.out; omega)
          have c1 := HR2.out.cell (j := 2 * i + 1) (by have := HH.out; omega)
          have c2 := hrb.cell hlt
          have f2 := hrb.free i
          have b0 := HFL.out (2 * i) (by have := HH.out; omega)
          have b1 := HFL.out (2 * i + 1) (by have := HH.out; omega)
          have hq := HRG.out i hlt
          obtain ⟨x, hx⟩ : ∃ x, f (2 * i) = x := ⟨_, rfl⟩
          obtain ⟨y, hy⟩ : ∃ x, f (2 * i + 1) = x := ⟨_, rfl⟩
          rw [hx] at c0 b0 hq
          rw [hy] at c1 b1 hq
          have e3 : bits .or .u8 (IntKind.u8.wrap ((x : Int) * 16)) (y : Int) = ((x * 16 + y : Nat) : Int) := by rw [pack16 _ _ b1, Nat.mod_eq_of_lt b0]
          obtain ⟨z, hz⟩ : ∃ z, z = x * 16 + y := ⟨_, rfl⟩
          rw [← hz] at e3 hq
          have e4 : (2 * (i : Int)).toNat = 2 * i := by omega
          have e5 : (2 * (i : Int) + 1).toNat = 2 * i + 1 := by omega
          have k1 : 2 * (i : Int) < (n : Int) := by have := HH.out; omega
          have k2 : 2 * (i : Int) + 1 < (n : Int) := by have := HH.out; omega
          have k3 : (0 : Int) ≤ 2 * (i : Int) := by omega
          have k4 : (0 : Int) ≤ 2 * (i : Int) + 1 := by omega
          have k5 : IntKind.i64.wrap (2 * (i : Int)) = 2 * (i : Int) := IntWalk.i64_in _ (by omega)
          have k6 : IntKind.i64.wrap (2 * (i : Int) + 1) = 2 * (i : Int) + 1 := IntWalk.i64_in _ (by omega)
          have hgne : g ≠ gb := by have h1 := HR.out.lt; have h2 := HGB.out; omega
          have HRS : Hid (Row (wr.drew.setCell ⟨gb, i, none⟩ (.int .u8 (z : Int))) gb 5 .u8 h (fun j => if j < i + 1 then r.getD j 0 else 0)) := (HRB.out.drew.set hlt z).congr (fun j hj => by
            by_cases e : j = i
            · subst e; rw [if_pos rfl, if_pos (by omega), hq]
            · rw [if_neg e]
              by_cases e2 : j < i
              · rw [if_pos e2, if_pos (by omega)]
              · rw [if_neg e2, if_neg (by omega)])
          have HBS : Hid (Below w1.heap.size w1 (wr.drew.setCell ⟨gb, i, none⟩ (.int .u8 (z : Int)))) := HE.out.drew.setCell (by rw [HGB.out]; exact Nat.le_refl _) _
          clear hrb hbe hx hy hz hq hgne
          go_wp2_with fail
          go_still_tail 16, (by kernel_rfl)
          go_wp2_with fail
          refine ⟨⟨i + 1, by omega, rfl, ?_, ?_⟩, by simp [intOf]; omega⟩
          · exact HRS.out
          · exact HBS.out
        · have hie : i = h := by omega
          have HRE : Hid (∀ j, j < h → wr.cell? ⟨gb, 0 + j, none⟩ = some (.int .u8 (r.getD j 0 : Nat))) := fun j hj => by
            rw [Nat.zero_add, hrb.cell hj, if_pos (by omega)]
          clear hrb hbe hie
          go_wp2_with (with_reducible refine wpList_bytes_string rfl 36 9 _ rfl Tryd.underlying36 Tryd.underlying5 Tryd.underlying9 gb 0 h h rfl r HRL.out HRE.out ?_)
          go_ret2
          exact ⟨HB.out.trans (HE.out.mono HB.out.size), .inl ⟨r, HX.out.2, HX.out.1, rfl⟩⟩
  · have HB := Lib.hid hb
    have HX : Hid (∀ r, (∀ c ∈ r, c < 256) → bs s ≠ C.hexOf r) := C.hex_not (.inl (not_in (by rw [HLN.out]; exact hnot)))
    have HT := Lib.hid (toldW p 10 w1 (HG.out.below HB.out HG.out.lt))
    clear hnot hb
    unfold TErr at HT ⊢
    go_wp2_with fail
    refine HT.out.mono ?_
    rintro e w3 ⟨rfl, hb3⟩
    have HB3 := Lib.hid (HB.out.trans (hb3.mono HB.out.size))
    clear hb3
    go_wp2_with fail
    go_ret2
    exact ⟨HB3.out, .inr ⟨HX.out, rfl⟩⟩
end Go.Proofs.YthdoeaiehajofaaDoor
