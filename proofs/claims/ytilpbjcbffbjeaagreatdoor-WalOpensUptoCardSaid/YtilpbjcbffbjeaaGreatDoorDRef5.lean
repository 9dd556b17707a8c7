/- The document's leaves: what choices leave of a file. -/
import Derived.Test.YtilpbjcbffbjeaaGreatDoorDRef4
namespace Go.Proofs.YtilpbjcbffbjeaaGreatDoor
set_option linter.unusedVariables false
set_option maxRecDepth 100000
open Go.RowKit
/-- An operation of a drawn region whose run is known. -/
theorem step_run {P : Program} {ops : Array Oper} {o : Oper} {a : Act} {w : World} {K : Act → World → Prop} {Q : Exit → Act → World → Prop} {E : Prop} (hgd : o.guard = none) (v : Value) (w' : World)
    (hrun : (execOp a.eval o).run P w = .ok (.value v) w') (h : K (a.put o.dst v) w') : if Region.wanted o (yielded ops a.tmps) = true then Oper.wp P o a w K Q else E := by
  have hw : Region.wanted o (yielded ops a.tmps) = true := by simp [Region.wanted, hgd]
  rw [if_pos hw]
  unfold Oper.wp
  rw [hrun]
  exact h
theorem makeB (u : World) (n : Nat) (hn : n ≤ 1048576) : (Instr.makeSlice 126 (.int .i64 (n : Int)) (.int .i64 (n : Int))).run Tryz.prog u = .ok (.slice (some ⟨u.heap.size, 0, none⟩) n n) (u.alloc (.cells (madeCells #[.int .u8 0] n) 5)) := by
  obtain ⟨i0, hi0, hz0, hz1, hz2⟩ := info_parts infoByte
  have h := run_make (P := Tryz.prog) u 126 5 i0 (.int .u8 0) Tryz.underlying126 hi0 hz0 .i64 .i64 (n : Int) (n : Int) (by omega) (by omega) (by rw [hz2]; omega) (by omega)
  rw [hz1] at h
  simpa [Value.cells] using h
theorem convB (u : World) (n : Nat) : (convert 126 9 (.slice (some ⟨u.heap.size, 0, none⟩) n n)).run Tryz.prog (u.alloc (.cells (madeCells #[.int .u8 0] n) 5)).drew = .ok (.string (zs n)) (u.alloc (.cells (madeCells #[.int .u8 0] n) 5)).drew := by
  have hr := run_convert_bytes_arg (P := Tryz.prog) (u.alloc (.cells (madeCells #[.int .u8 0] n) 5)).drew 126 5 Tryz.underlying126 Tryz.underlying5 u.heap.size 0 n n (List.replicate n 0) (by simp) (fun i hi => by
    rw [Nat.zero_add, World.cell?_drew]
    have h1 := heap_alloc_new u (.cells (madeCells #[.int .u8 0] n) 5)
    rw [cell_of_row _ _ i _ 5 _ h1]
    simp [madeCells, hi, Nat.mod_one]) 9 Tryz.underlying9
  rw [hr]
  unfold zs strOf strOfNums
  congr 3
  simp
theorem strOf_append (a b : List Nat) : strOf (a ++ b) = strOf a ++ strOf b := by
  unfold strOf
  apply ByteArray.ext
  simp
theorem strOf_take (s : ByteArray) (k : Nat) : strOf ((bs s).take k) = s.extract 0 k := by
  rw [← strOf_bs (s.extract 0 k), bs_extract, List.drop_zero, Nat.sub_zero]
theorem lftN_keep (f : Fl) (cs : List Int) (i n k H : Nat) (x S : ByteArray) (hx : x = f.ws.getD i ⟨#[]⟩) (hn : n = x.size) (hk : k = kpt cs i n) (h0 : 0 < k) (hH : H = (lftN f cs i).2) (hS : S = strOf (lftN f cs i).1) :
    S ++ (zs H ++ x.extract 0 k) = strOf (lftN f cs (i + 1)).1 ∧ ((n - k : Nat)) = (lftN f cs (i + 1)).2 := by
  rw [lftN_succ, ← hx, ← hn, ← hk, if_neg (by omega)]
  dsimp only
  rw [hS, strOf_append, strOf_append, strOf_take, ← hH, ByteArray.append_assoc]
  exact ⟨rfl, rfl⟩
theorem lftN_drop (f : Fl) (cs : List Int) (i n k H : Nat) (x S : ByteArray) (hx : x = f.ws.getD i ⟨#[]⟩) (hn : n = x.size) (hk : k = kpt cs i n) (h0 : k = 0) (hH : H = (lftN f cs i).2) (hS : S = strOf (lftN f cs i).1) :
    S = strOf (lftN f cs (i + 1)).1 ∧ H + n = (lftN f cs (i + 1)).2 := by
  rw [lftN_succ, ← hx, ← hn, ← hk, if_pos h0]
  dsimp only
  exact ⟨hS, by omega⟩
set_option maxRecDepth 100000 in
set_option maxHeartbeats 1600000 in
theorem rleavesW (f : Fl) (v cv : Value) (cs : List Int) (w : World) (h : WS w v f.ws) (hcs : Ints w cv cs) (hl : (rd f).size ≤ 1048576) (hn : f.ws.length ≤ 140737488355328) (hcn : cs.length ≤ 140737488355328) :
    Calls Tryz.prog 169 #[.agg #[.string f.safe, v], cv] w fun e w' => e = .returned (.string (left f cs)) ∧ Below w.heap.size w w' := by
  have hsz := size_rd f
  obtain ⟨W, hW⟩ : ∃ W, W = w.alloc (.cells #[.string f.safe, v] 129) := ⟨_, rfl⟩
  have hb0 : Below w.heap.size w W := by rw [hW]; exact (Below.refl _ _).alloc (Nat.le_refl _) _
  have hWs : W.heap.size = w.heap.size + 1 := by rw [hW]; simp
  have c0 : W.cell? ⟨w.heap.size, 0, none⟩ = some (.string f.safe) := by rw [hW]; simp
  have c1 : W.cell? ⟨w.heap.size, 1, none⟩ = some v := by rw [hW]; simp
  obtain ⟨p, c, rfl, _⟩ := h.form
  have HS := Lib.hid (h.below hb0)
  obtain ⟨cp, ccap, rfl, hccell⟩ := (hcs.below hb0).form
  have HCC := Lib.hid hccell
  obtain ⟨CN, hCN⟩ : ∃ n, n = cs.length := ⟨_, rfl⟩
  rw [← hCN] at hcn ⊢
  have HCN := Lib.hid hCN
  obtain ⟨n, hnn⟩ : ∃ n, n = f.ws.length := ⟨_, rfl⟩
  rw [← hnn] at c1 hn HS hW ⊢
  obtain ⟨S, hS⟩ : ∃ S, S = f.safe := ⟨_, rfl⟩
  rw [← hS] at c0 hW ⊢
  obtain ⟨bb, hbb⟩ : ∃ n, n = w.heap.size := ⟨_, rfl⟩
  rw [← hbb] at c0 c1
  have HSS := Lib.hid hS
  have HN := Lib.hid hnn
  have HB := Lib.hid hbb
  have HW := Lib.hid hW
  have HB0 := Lib.hid hb0
  have HRD := Lib.hid hl
  have HSZ := Lib.hid hsz
  clear h hcs hb0 hnn hS hl hsz hccell hCN hWs
  clear hW hbb
  go_enter Tryz.func169, Tryz.ntmps169
  go_wp2_with fail
  rw [← HW.out, ← HB.out]
  go_loopw [5, 6, 7] (fun vs vh vi wr => ∃ (i H : Nat) (s : ByteArray), i ≤ n ∧ vi = .int .i64 (i : Nat) ∧ vs = .string s ∧ s = strOf (lftN f cs i).1 ∧ vh = .int .i64 (H : Nat) ∧ H = (lftN f cs i).2 ∧ Below W.heap.size W wr) (fun _ _ vi _ => (n - intOf vi).toNat)
  case atStart => exact ⟨0, 0, S, by omega, rfl, rfl, by rw [HSS.out]; exact (strOf_bs f.safe).symm, rfl, rfl, Below.refl _ _⟩
  case round =>
    obtain ⟨i, H, s, hi, rfl, rfl, hs, rfl, hH, hbr⟩ := hrel
    have HSTR := Lib.hid hs
    have HHO := Lib.hid hH
    have HBR := Lib.hid hbr
    have d1 := (hbr.cell (block_lt_of_cell c1)).trans c1
    have hlen := lftN_len f cs i (by rw [← HN.out]; exact hi)
    have hsl : s.size = (lftN f cs i).1.length := by rw [hs, size_strOf]
    have hct := length_cat_take f.ws i
    have hS1 := HSZ.out
    have hS2 := HRD.out
    have hHb : H ≤ 1048576 := by omega
    have hsb : s.size ≤ 1048576 := by omega
    clear hs hH hbr hlen hsl hct hS1 hS2
    by_cases hlt : i < n
    · obtain ⟨g, o, rfl, x1⟩ := strs_at' (HS.out.below HBR.out).strs i (by rw [← HN.out]; exact hlt)
      obtain ⟨x, hx⟩ : ∃ x, x = f.ws.getD i ⟨#[]⟩ := ⟨_, rfl⟩
      rw [← hx] at x1
      have hle := size_getD_le f.ws i (by rw [← HN.out]; exact hlt)
      rw [show (ByteArray.empty : ByteArray) = ⟨#[]⟩ from rfl, ← hx] at hle
      have hS1 := HSZ.out
      have hS2 := HRD.out
      have hxb : x.size ≤ 1048576 := by omega
      obtain ⟨m, hm⟩ : ∃ m, m = x.size := ⟨_, rfl⟩
      have hmb : m ≤ 1048576 := by omega
      have HX := Lib.hid hx
      have HM := Lib.hid hm
      clear hx hle hS1 hS2
      have e0 : (x.size : Int) = (m : Int) := by omega
      have HE0 := Lib.hid e0
      clear hm e0
      by_cases hci : i < CN
      · obtain ⟨cb, co, hcp, hcx⟩ := HCC.out i (by rw [← HCN.out]; exact hci)
        subst hcp
        have hcw := (HBR.out.cell (block_lt_of_cell hcx)).trans hcx
        obtain ⟨z, hz⟩ : ∃ z, z = cs.getD i 0 := ⟨_, rfl⟩
        rw [← hz] at hcw
        obtain ⟨k, hk⟩ : ∃ k, k = kpt cs i m := ⟨_, rfl⟩
        have hkz : min (x.size : Int) (max 0 z) = (k : Int) := by
          rw [hk, kpt, if_pos (by rw [← HCN.out]; exact hci), ← hz, HE0.out]
          omega
        have hkn : k ≤ m := by rw [hk]; exact kpt_le _ _ _
        have HK := Lib.hid hk
        have HKZ := Lib.hid hkz
        clear hcx hz hk
        by_cases hk0 : 0 < k
        · obtain ⟨r1, r2⟩ := lftN_keep f cs i m k H x s HX.out HM.out HK.out hk0 HHO.out HSTR.out
          have hzs : (zs H).size = H := size_zs H
          have hxe : (x.extract 0 k).size = k := by rw [ByteArray.size_extract]; have := HM.out; omega
          have q1 : ¬ 9223372036854775807 < (zs H).size + (x.extract 0 k).size := by omega
          have q2 : ¬ 9223372036854775807 < s.size + (zs H ++ x.extract 0 k).size := by rw [ByteArray.size_append]; omega
          have q3 : (0 : Int) ≤ (k : Int) := by omega
          have q4 : (k : Int) ≤ (x.size : Int) := by rw [HE0.out]; omega
          have hmk := makeB wr.drew H hHb
          have hcv := convB wr H
          have R1 := Lib.hid r1
          have R2 := Lib.hid r2
          clear r1 r2 hzs hxe
          have q5 : (0 : Int) < (k : Int) := by omega
          go_wp2_with fail
          go_region
          all_goals
            clear hmk hcv q1 q2 q3 q4 hkz
            have e0 := HE0.out
            have r1 := R1.out
            have r2 := R2.out
            obtain ⟨H', hH'⟩ : ∃ H' : Nat, H' = m - k := ⟨_, rfl⟩
            have e1 : (x.size : Int) - (k : Int) = (H' : Int) := by omega
            rw [← hH'] at r2
            have HR2 := Lib.hid r2
            have HE1 := Lib.hid e1
            have HR1 := Lib.hid r1
            clear e0 r1 r2 hH' e1
            go_wp2_with fail
            exact ⟨⟨i + 1, H', _, by omega, rfl, rfl, HR1.out, by rw [HE1.out], HR2.out, HBR.out.trans (((Below.refl _ _).alloc (Nat.le_refl _) _).drew.mono HBR.out.size)⟩, by simp [intOf]; omega⟩
        · have hk1 : k = 0 := by omega
          obtain ⟨r1, r2⟩ := lftN_drop f cs i m k H x s HX.out HM.out HK.out hk1 HHO.out HSTR.out
          have R1 := Lib.hid r1
          have R2 := Lib.hid r2
          have hkz2 : min (x.size : Int) (max 0 z) = 0 := by rw [hkz, hk1]; rfl
          clear hkz hk1 hkn hk0 r1 r2
          go_wp2_with fail
          exact ⟨⟨i + 1, H + m, _, by omega, rfl, rfl, R1.out, by have := HE0.out; rw [this]; go_num, R2.out, HBR.out⟩, by simp [intOf]; omega⟩
      · have hk1 : 0 = kpt cs i m := by unfold kpt; rw [if_neg (by rw [← HCN.out]; exact hci)]
        obtain ⟨r1, r2⟩ := lftN_drop f cs i m 0 H x s HX.out HM.out hk1 rfl HHO.out HSTR.out
        have R1 := Lib.hid r1
        have R2 := Lib.hid r2
        clear hk1 r1 r2
        go_wp2_with fail
        exact ⟨⟨i + 1, H + m, _, by omega, rfl, rfl, R1.out, by have := HE0.out; rw [this]; go_num, R2.out, HBR.out⟩, by simp [intOf]; omega⟩
    · have hie : i = n := by omega
      have e : s = left f cs := by rw [HSTR.out, hie, HN.out]; rfl
      have HE := Lib.hid e
      clear hie e
      go_wp2_with fail
      go_ret
      refine ⟨congrArg (fun x => Ending.returned (.string x)) HE.out, HB0.out.trans (HBR.out.mono HB0.out.size)⟩
end Go.Proofs.YtilpbjcbffbjeaaGreatDoor
