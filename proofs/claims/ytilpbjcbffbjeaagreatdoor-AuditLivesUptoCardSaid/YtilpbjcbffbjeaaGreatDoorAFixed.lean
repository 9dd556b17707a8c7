/- The walk of the audit laws' fixed: calls whose answers the document fixes. -/
import Derived.Test.YtilpbjcbffbjeaaGreatDoorAVer2
import Derived.Test.YtilpbjcbffbjeaaGreatDoorPkI
import Derived.Test.YtilpbjcbffbjeaaGreatDoorPkD
namespace Go.Proofs.YtilpbjcbffbjeaaGreatDoor
set_option linter.unusedVariables false
set_option maxRecDepth 100000
open Go.RowKit
theorem makeBA (u : World) (n : Nat) (hn : n ≤ 1048576) : (Instr.makeSlice 126 (.int .i64 (n : Int)) (.int .i64 (n : Int))).run Tryz.prog u = .ok (.slice (some ⟨u.heap.size, 0, none⟩) n n) (u.alloc (.cells (madeCells #[.int .u8 0] n) 5)) := by
  obtain ⟨i0, hi0, hz0, hz1, hz2⟩ := info_parts infoB
  have h := run_make (P := Tryz.prog) u 126 5 i0 (.int .u8 0) Tryz.underlying126 hi0 hz0 .i64 .i64 (n : Int) (n : Int) (by omega) (by omega) (by rw [hz2]; omega) (by omega)
  rw [hz1] at h
  simpa [Value.cells] using h
theorem convBA (u : World) (n : Nat) : (convert 126 9 (.slice (some ⟨u.heap.size, 0, none⟩) n n)).run Tryz.prog (u.alloc (.cells (madeCells #[.int .u8 0] n) 5)) = .ok (.string (zs n)) (u.alloc (.cells (madeCells #[.int .u8 0] n) 5)) := by
  have hr := run_convert_bytes_arg (P := Tryz.prog) (u.alloc (.cells (madeCells #[.int .u8 0] n) 5)) 126 5 Tryz.underlying126 Tryz.underlying5 u.heap.size 0 n n (List.replicate n 0) (by simp) (fun i hi => by
    rw [cell_of_row _ u.heap.size (0 + i) (madeCells #[.int .u8 0] n) 5 _ (heap_alloc_new u _)]
    simp [madeCells, Nat.mod_one, hi]) 9 Tryz.underlying9
  have e1 : strOfNums (List.replicate n 0) = zs n := by unfold strOfNums zs strOf; simp
  rw [e1] at hr
  exact hr
def zfe : ByteArray := ⟨#[]⟩
theorem few_zero (n : Nat) : Few (dk0 (List.replicate n Fl.zero)) := by
  intro j hj
  have hj' : j < n := by have h : j < (List.replicate n Fl.zero).length := hj; rwa [List.length_replicate] at h
  show ((List.replicate n Fl.zero).getD j Fl.zero).ws.length ≤ _
  rw [List.getD_eq_getElem?_getD, List.getElem?_replicate, if_pos hj']
  exact Nat.zero_le _
theorem getD_zeros (n j : Nat) : (List.replicate n Fl.zero).getD j Fl.zero = Fl.zero := by
  rw [List.getD_eq_getElem?_getD, List.getElem?_replicate]
  split <;> rfl
theorem newErr_zeros (n : Nat) (h0 : 0 < n) (h1 : n ≤ 32) : newErr (List.replicate n zfe) = 0 := by
  unfold newErr
  rw [if_neg (by rw [List.length_replicate]; omega), if_neg]
  intro h
  obtain ⟨s, hs, h2⟩ := List.any_eq_true.1 h
  rw [(List.mem_replicate.1 hs).2] at h2
  exact absurd h2 (by decide)
theorem newDk_zeros (n : Nat) : newDk (List.replicate n zfe) = dk0 (List.replicate n Fl.zero) := by
  unfold newDk dk0
  rw [List.map_replicate]
  rfl
/-- A new disk of empty files. -/
theorem newZ {w : World} (v : Value) (n : Nat) (h0 : 0 < n) (h1 : n ≤ 32) (h : Strs w v (List.replicate n zfe)) :
    Calls Tryz.prog 10 #[v] w fun e w' => ∃ b g cap, e = .returned (.tuple #[.pointer (some ⟨b, 0, none⟩), .int .i64 0]) ∧ At w.heap.size w b g cap (dk0 (List.replicate n Fl.zero)) w' ∧ DOk (dk0 (List.replicate n Fl.zero)) := by
  refine (newW v (List.replicate n zfe) h (by rw [List.length_replicate]; omega) (fun i hi => ?_)).mono ?_
  · rw [List.getD_eq_getElem?_getD, List.getElem?_replicate]
    split <;> decide
  · rintro e w' ⟨hb, ⟨hne, _⟩ | ⟨h2, b, g, cap, rfl, hd, hbb, hgg⟩⟩
    · exact absurd (newErr_zeros n h0 h1) hne
    · have hok := newDk_ok h2
      rw [newDk_zeros] at hd hok
      exact ⟨b, g, cap, rfl, ⟨hd, hb, hbb, hgg, Nat.le_refl _⟩, hok⟩
theorem At.rebase {B C : Nat} {w0 w1 w' : World} {b g cap : Nat} {D : Dk} (h : At C w1 b g cap D w') (hb : Below B w0 w1) (hB : B ≤ C) (hB0 : B ≤ w0.heap.size) : At B w0 b g cap D w' :=
  ⟨h.disk, hb.trans (h.below.mono hB), Nat.le_trans hB h.bB, Nat.le_trans hB h.gB, hB0⟩
theorem restZ (n j : Nat) : ARest ⟨rd ((List.replicate n Fl.zero).getD j Fl.zero), []⟩ [] := by rw [getD_zeros]; exact ARest.start.sync
theorem strs_one1 (w : World) (b : Nat) (x : ByteArray) (h0 : w.cell? ⟨b, 0, none⟩ = some (.string x)) : Strs w (.slice (some ⟨b, 0, none⟩) 1 1) [x] := by
  refine Strs.mk (ss := [x]) fun i hi => ?_
  match i, (show i < 1 from hi) with
  | 0, _ => exact ⟨b, 0, rfl, h0⟩
def xa : ByteArray := ⟨#[97]⟩
def xb : ByteArray := ⟨#[98]⟩
def xx : ByteArray := ⟨#[120]⟩
def fx3 : List ByteArray := [xa, xb, zs 45]
theorem fx3_fits : Fits (fx3.map bs) := fits_map (fun s hs => by
  rcases List.mem_cons.1 hs with rfl | hs
  · decide
  rcases List.mem_cons.1 hs with rfl | hs
  · decide
  rcases List.mem_cons.1 hs with rfl | hs
  · rw [size_zs]; decide
  · cases hs)
theorem r1 : aRes 200 [] xa = 0 := aRes_ok (by decide) (by decide)
theorem zt1 : zT ([] ++ [xa]) = 52 := zT_snoc [] xa
theorem r2 : aRes 200 ([] ++ [xa]) xb = 0 := aRes_ok (by decide) (by rw [zt1]; decide)
theorem zt2 : zT (([] ++ [xa]) ++ [xb]) = 104 := by rw [zT_snoc, zt1]; rfl
theorem r3 : aRes 200 (([] ++ [xa]) ++ [xb]) (zs 97) = 191 := aRes_full (by rw [size_zs]; decide) (by rw [zt2, size_zs]; decide)
theorem r4 : aRes 200 (([] ++ [xa]) ++ [xb]) (zs 45) = 0 := aRes_ok (by rw [size_zs]; decide) (by rw [zt2, size_zs]; decide)
theorem zt3 : zT (([] ++ [xa]) ++ [xb] ++ [zs 45]) = 200 := by rw [zT_snoc, zt2, size_zs]
theorem len3 : (([] ++ [xa]) ++ [xb] ++ [zs 45] : List ByteArray).length = 3 := rfl
set_option maxHeartbeats 3200000 in
theorem afixedW (w : World) : Calls Tryz.prog 29 #[] w fun e w' => e = .returned (.bool true) ∧ Below w.heap.size w w' := by
  go_enter Tryz.func29, Tryz.ntmps29
  go_wp2_with fail
  refine (newZ _ 1 (by decide) (by decide) (strs_one1 _ w.heap.size zfe (by simp [zfe]))).mono ?_
  rintro e w1 ⟨b, g, cap, rfl, hat, hok⟩
  have HA := Lib.hid (hat.rebase ((Below.refl _ _).alloc (Nat.le_refl _) _) (by simp) (Nat.le_refl _))
  have HOK := Lib.hid hok
  clear hat hok
  go_wp2_with fail
  refine (HA.out.aopenU HOK.out rfl rfl (f := 0) (quota := 200) (by decide) (restZ 1 0) (by decide) (few_zero 1)).mono ?_
  rintro e w2 ⟨lb, D1, rfl, _, hst, _, _⟩
  have HS := Lib.hid hst
  clear hst HA HOK
  have HRM := Lib.hid HS.out.room
  rw [show aroom 200 (zT []) = 149 by decide] at HRM
  go_wp2_with fail
  refine HRM.out.mono ?_
  rintro e w3 ⟨rfl, hb⟩
  replace HS := Lib.hid (HS.out.grow hb)
  clear hb HRM
  have HP := Lib.hid (HS.out.app xa)
  rw [aTx_ok r1, r1] at HP
  go_wp2_with fail
  refine HP.out.mono ?_
  rintro e w4 ⟨rfl, D2, hst, _, _⟩
  replace HS := Lib.hid hst
  clear hst HP
  have HP := Lib.hid (HS.out.app xb)
  rw [aTx_ok r2, r2] at HP
  go_wp2_with fail
  refine HP.out.mono ?_
  rintro e w5 ⟨rfl, D3, hst, _, _⟩
  replace HS := Lib.hid hst
  clear hst HP
  have hmk : (Instr.makeSlice 126 (.int .i64 97) (.int .i64 97)).run Tryz.prog w5 = .ok (.slice (some ⟨w5.heap.size, 0, none⟩) 97 97) (w5.alloc (.cells (madeCells #[.int .u8 0] 97) 5)) := makeBA w5 97 (by decide)
  have hcv := convBA w5 97
  obtain ⟨W, hW⟩ : ∃ W, W = w5.alloc (.cells (madeCells #[.int .u8 0] 97) 5) := ⟨_, rfl⟩
  have hb : Below w5.heap.size w5 W := by rw [hW]; exact (Below.refl _ _).alloc (Nat.le_refl _) _
  replace HS := Lib.hid (HS.out.grow hb)
  have HP := Lib.hid (HS.out.app (zs 97))
  rw [aTx_no (by rw [r3]; decide), r3] at HP
  rw [← hW] at hmk hcv
  clear hb hW
  go_wp2_with fail
  refine HP.out.mono ?_
  rintro e w6 ⟨rfl, D4, hst, _, _⟩
  replace HS := Lib.hid hst
  clear hst HP hmk hcv
  have hmk : (Instr.makeSlice 126 (.int .i64 45) (.int .i64 45)).run Tryz.prog w6 = .ok (.slice (some ⟨w6.heap.size, 0, none⟩) 45 45) (w6.alloc (.cells (madeCells #[.int .u8 0] 45) 5)) := makeBA w6 45 (by decide)
  have hcv := convBA w6 45
  obtain ⟨W2, hW⟩ : ∃ W, W = w6.alloc (.cells (madeCells #[.int .u8 0] 45) 5) := ⟨_, rfl⟩
  have hb : Below w6.heap.size w6 W2 := by rw [hW]; exact (Below.refl _ _).alloc (Nat.le_refl _) _
  replace HS := Lib.hid (HS.out.grow hb)
  have HP := Lib.hid (HS.out.app (zs 45))
  rw [aTx_ok r4, r4] at HP
  rw [← hW] at hmk hcv
  clear hb hW
  go_wp2_with fail
  refine HP.out.mono ?_
  rintro e w7 ⟨rfl, D5, hst, _, _⟩
  replace HS := Lib.hid hst
  clear hst HP hmk hcv
  have HP := Lib.hid HS.out.syn
  go_wp2_with fail
  refine HP.out.mono ?_
  rintro e w8 ⟨rfl, D6, hst, _, _⟩
  replace HS := Lib.hid hst
  clear hst HP
  have HRM := Lib.hid HS.out.room
  rw [show aroom 200 (zT (([] ++ [xa]) ++ [xb] ++ [zs 45])) = -1 by rw [zt3]; decide] at HRM
  go_wp2_with fail
  refine HRM.out.mono ?_
  rintro e w9 ⟨rfl, hb⟩
  replace HS := Lib.hid (HS.out.grow hb)
  clear hb HRM
  have HRD := Lib.hid HS.out.readF
  have HV1 := Lib.hid HS.out.verify
  have HV2 := Lib.hid (fun u => averMore (([] ++ [xa]) ++ [xb] ++ [zs 45]) xx u HS.out.ac.fit HS.out.z (by decide) (by decide) (whole_short _ (by decide)))
  have HV3 := Lib.hid (fun u => averAll [] u (by simp) (by decide))
  have HLK := Lib.hid HS.out.link
  rw [show fileS [] = ⟨#[]⟩ by rfl, show strOf (linkL (List.map bs [])) = zs 32 from zs_firstL.symm, List.length_nil] at HV3
  rw [len3] at HV1
  obtain ⟨S, hS⟩ : ∃ S, S = fileS (([] ++ [xa]) ++ [xb] ++ [zs 45]) := ⟨_, rfl⟩
  have hSz : S.size = 200 := by rw [hS, size_fileS, zt3]
  rw [← hS] at HRD HV1 HV2
  clear hS
  obtain ⟨L, hL⟩ : ∃ L, L = strOf (linkL ((([] ++ [xa]) ++ [xb] ++ [zs 45]).map bs)) := ⟨_, rfl⟩
  rw [← hL] at HV1
  have HLE := Lib.hid hL
  clear HLK hL
  go_wp2_with fail
  refine HRD.out.mono ?_
  rintro e w10 ⟨rfl, hb⟩
  have HB := Lib.hid (HS.out.grow hb)
  have HL := Lib.hid (HB.out.link)
  clear hb HRD
  have hSx : ¬ 9223372036854775807 < S.size + xx.size := by rw [hSz]; decide
  go_wp2_with fail
  refine (HV1.out _).mono ?_
  rintro e w11 ⟨p1, rfl, hs1, hb⟩
  have HS1 := Lib.hid hs1
  have HB1 := Lib.hid (HB.out.grow hb)
  clear hb hs1 HV1
  go_wp2_with fail
  refine (HV2.out _).mono ?_
  rintro e w12 ⟨rfl, hb⟩
  replace HS1 := Lib.hid (HS1.out.below hb)
  replace HB1 := Lib.hid (HB1.out.grow hb)
  clear hb HV2 hSx
  go_wp2_with fail
  refine (HV3.out _).mono ?_
  rintro e w13 ⟨p3, rfl, _, hb⟩
  replace HS1 := Lib.hid (HS1.out.below hb)
  replace HB1 := Lib.hid (HB1.out.grow hb)
  clear hb HV3
  have hLK : Calls Tryz.prog 34 #[.pointer (some ⟨lb, 0, none⟩)] w13 fun e w' => e = .returned (.string L) ∧ w' = w13 := by
    have h1 := HB1.out.link
    rw [← HLE.out] at h1
    exact h1
  have HLK := Lib.hid hLK
  clear hLK HL
  obtain ⟨q1, c1, e1, hc⟩ := HS1.out.form
  simp only [Value.slice.injEq] at e1
  obtain ⟨rfl, _, _⟩ := e1
  obtain ⟨gb, off, rfl, hcell⟩ := hc 0 (by decide)
  replace hcell : w13.cell? ⟨gb, off, none⟩ = some (.string ⟨#[97]⟩) := hcell
  have hmk : (Instr.makeSlice 126 (.int .i64 32) (.int .i64 32)).run Tryz.prog w13 = .ok (.slice (some ⟨w13.heap.size, 0, none⟩) 32 32) (w13.alloc (.cells (madeCells #[.int .u8 0] 32) 5)) := makeBA w13 32 (by decide)
  have hcv := convBA w13 32
  obtain ⟨W3, hW⟩ : ∃ W, W = w13.alloc (.cells (madeCells #[.int .u8 0] 32) 5) := ⟨_, rfl⟩
  have hb : Below w13.heap.size w13 W3 := by rw [hW]; exact (Below.refl _ _).alloc (Nat.le_refl _) _
  have HF := Lib.hid (HB1.out.grow hb).on.below
  rw [← hW] at hmk hcv
  clear hb hW hc HB HB1 HS HS1
  have hS2 : (S.size : Int) = 200 := by omega
  go_wp2_with fail
  refine HLK.out.mono ?_
  rintro e w14 ⟨rfl, rfl⟩
  go_wp2_with fail
  go_ret
  exact ⟨rfl, HF.out⟩
end Go.Proofs.YtilpbjcbffbjeaaGreatDoor
