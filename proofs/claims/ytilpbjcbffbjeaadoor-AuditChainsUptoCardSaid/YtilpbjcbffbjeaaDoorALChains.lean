/- The walk of AuditChains. -/
import Derived.Test.YtilpbjcbffbjeaaDoorAThin
namespace Go.Proofs.YtilpbjcbffbjeaaDoor
set_option linter.unusedVariables false
set_option maxRecDepth 100000
open Go.RowKit
theorem Strs.cellJ2 {w : World} {v : Value} {ss : List ByteArray} (h : Strs w v ss) {p : Option Addr} {n c : Nat} (hv : v = .slice p n c) {i : Nat} (hi : i < ss.length) : ∃ b off, p = some ⟨b, off, none⟩ ∧ w.cell? ⟨b, off + i, none⟩ = some (.string (ss.getD i ⟨#[]⟩)) := by
  obtain ⟨p', c', e, hc⟩ := h.form
  rw [hv] at e
  injection e with e1 e2 e3
  subst e1
  exact hc i hi
theorem linkL_nil : strOf (linkL (([] : List ByteArray).map bs)) = zs 32 := rfl
/-- The link behind one more text, as the law writes it down. -/
theorem link_next (ss : List ByteArray) (T : ByteArray) : strOf (Sha.sum Sha.k32 (bs (strOf (linkL (ss.map bs)) ++ strOf (num T.size 4) ++ T))) = strOf (linkL ((ss ++ [T]).map bs)) := by
  rw [List.map_append, List.map_singleton, linkL_snoc, bs_append, bs_append, bs_strOf _ (linkL_lt _), bs_strOf _ (num_lt _ _)]
  unfold nextL
  rw [length_bs, List.append_assoc]
theorem num4 (n : Nat) (h : n ≤ 1024) : num n 4 = [0, 0, n / 256 % 256, n % 256] := by
  simp only [num]
  have h1 : n / 256 ^ 3 % 256 = 0 := by omega
  have h2 : n / 256 ^ 2 % 256 = 0 := by omega
  have h3 : n / 256 ^ 1 % 256 = n / 256 % 256 := by omega
  have h4 : n / 256 ^ 0 % 256 = n % 256 := by omega
  rw [h1, h2, h3, h4]
/-- The row of a length's bytes. -/
def row4 (u : World) (n : Nat) : World := u.alloc (.cells #[.int .u8 0, .int .u8 0, .int .u8 (IntKind.u8.wrap ((n : Int) / 256)), .int .u8 (IntKind.u8.wrap (n : Int))] 5)
theorem below_row4 (u : World) (n : Nat) : Below u.heap.size u (row4 u n) := (Below.refl _ _).alloc (Nat.le_refl _) _
theorem conv4 (u : World) (n : Nat) (hn : n ≤ 1024) : (convert 30 9 (.slice (some ⟨u.heap.size, 0, none⟩) 4 4)).run Tryd.prog (row4 u n) = .ok (.string (strOf (num n 4))) (row4 u n) := by
  have e1 : IntKind.u8.wrap ((n : Int) / 256) = ((n / 256 % 256 : Nat) : Int) := by rw [IntKind.wrap_u8]; omega
  have e2 : IntKind.u8.wrap (n : Int) = ((n % 256 : Nat) : Int) := by rw [IntKind.wrap_u8]; omega
  have hr := run_convert_bytes_arg (P := Tryd.prog) (row4 u n) 30 5 Tryd.underlying30 Tryd.underlying5 u.heap.size 0 4 4 [0, 0, ((n / 256 % 256 : Nat) : Int), ((n % 256 : Nat) : Int)] rfl (fun i hi => by
    unfold row4
    rw [e1, e2, cell_of_row _ u.heap.size (0 + i) _ 5 _ (heap_alloc_new u _)]
    match i, hi with
    | 0, _ => rfl
    | 1, _ => rfl
    | 2, _ => rfl
    | 3, _ => rfl) 9 Tryd.underlying9
  have e3 : strOfNums [0, 0, ((n / 256 % 256 : Nat) : Int), ((n % 256 : Nat) : Int)] = strOf (num n 4) := by
    rw [num4 n hn]
    unfold strOfNums strOf
    simp
    exact ⟨congrArg _ (by omega), congrArg _ (by omega)⟩
  rw [e3] at hr
  exact hr
set_option maxHeartbeats 6400000 in
theorem chainsLaw (v : Value) (tt : List ByteArray) (at_ : Int) (w : World) (hs : Strs w v tt) (hl : tt.length ≤ 1048576) :
    Calls Tryd.prog 3 #[v, .int .i64 at_] w fun e w' => e = .returned (.bool true) ∧ Below w.heap.size w w' := by
  obtain ⟨vp, vc, rfl, _⟩ := hs.form
  have HSS := Lib.hid hs
  obtain ⟨m, hm⟩ : ∃ m, m = tt.length := ⟨_, rfl⟩
  rw [← hm] at HSS hl ⊢
  have HMM := Lib.hid hm
  clear hs hm
  have hmk := makeBA
  go_enter Tryd.func3, Tryd.ntmps3
  go_wp2_with fail
  refine (newZ _ 1 (by decide) (by decide) (strs_one1 _ w.heap.size zfe (by simp [zfe]))).mono ?_
  rintro e w1 ⟨b, g, cap, rfl, hat, hok⟩
  have HA := Lib.hid (hat.rebase ((Below.refl _ _).alloc (Nat.le_refl _) _) (by simp) (Nat.le_refl _))
  have HOK := Lib.hid hok
  clear hat hok
  have HO1 := Lib.hid (HA.out.aopenU HOK.out rfl rfl (f := 0) (by decide) (restZ 1 0) (quota := 262144) (by decide) (few_zero 1))
  go_wp2_with fail
  refine HO1.out.mono ?_
  rintro e w2 ⟨la, D1, rfl, _, hst, hc, hal⟩
  have HS := Lib.hid hst
  have HFW : Hid (FullW D1) := hal.fullW (fullW_zero 1) hst.ac
  have HLN : Hid (D1.l.length = 1) := by unfold Hid; rw [hal.len]; rfl
  clear hst hc hal HO1 HA HOK
  go_upto_region 8 with fail
  obtain ⟨WA, hWA⟩ : ∃ W, W = w2.alloc (.cells #[] 9) := ⟨_, rfl⟩
  have hbA : Below w2.heap.size w2 WA := by rw [hWA]; exact (Below.refl _ _).alloc (Nat.le_refl _) _
  have HO : Hid (OwnsZ WA w.heap.size (.slice (some ⟨w2.heap.size, 0, none⟩) 0 0) []) := by
    have h := OwnsZ.emptyW w2
    rw [← hWA] at h
    exact h.base HS.out.on.below.size
  have HF : Hid (AFr (some w2.heap.size) WA la b 0 262144 [] false) := (HS.out.log.fr (fun k hk => by injection hk with hk; omega)).below hbA
  replace HS := Lib.hid (HS.out.grow hbA)
  rw [← hWA]
  clear hWA hbA
  have hmk : (Instr.makeSlice 30 (.int .i64 32) (.int .i64 32)).run Tryd.prog WA = .ok (.slice (some ⟨WA.heap.size, 0, none⟩) 32 32) (WA.alloc (.cells (madeCells #[.int .u8 0] 32) 5)) := makeBA WA 32 (by decide)
  have hcv := convBA WA 32
  go_upto_region 9 with fail
  obtain ⟨WB, hWB⟩ : ∃ W, W = WA.alloc (.cells (madeCells #[.int .u8 0] 32) 5) := ⟨_, rfl⟩
  have hbB : Below WA.heap.size WA WB := by rw [hWB]; exact (Below.refl _ _).alloc (Nat.le_refl _) _
  replace HS := Lib.hid (HS.out.grow hbB)
  replace HO := Lib.hid (HO.out.below hbB)
  replace HF := Lib.hid (HF.out.below hbB)
  rw [← hWB]
  clear hWB hbB hmk hcv
  go_wp2_with fail
  go_loopw [9, 10, 11] (fun v9 v10 v11 wr => ∃ (i : Nat) (D : Dk) (ss : List ByteArray), v11 = .int .i64 (i : Nat) ∧ v10 = .string (strOf (linkL (ss.map bs))) ∧ i ≤ m ∧ i ≤ 20 ∧ zT ss ≤ 1075 * i ∧ ASt w.heap.size w b g cap la 0 262144 ss 0 D wr ∧ AFr v9.ownBlock wr la b 0 262144 ss false ∧ OwnsZ wr w.heap.size v9 ss ∧ FullW D ∧ D.l.length = 1) (fun _ _ v _ => (m - intOf v).toNat)
  case atStart => exact ⟨0, D1, [], rfl, by rw [linkL_nil], Nat.zero_le _, Nat.zero_le _, Nat.zero_le _, HS.out, HF.out, HO.out, HFW.out, HLN.out⟩
  case round =>
    clear HS HF HO HFW HLN
    obtain ⟨i, D, ss, rfl, rfl, him, hi20, hzz, hst, hfr, hown, hfw, hln⟩ := hrel
    have HS := Lib.hid hst
    have HF := Lib.hid hfr
    have HO := Lib.hid hown
    have HFW := Lib.hid hfw
    have HLN := Lib.hid hln
    have HZZ := Lib.hid hzz
    clear hst hfr hown hfw hln hzz
    by_cases hlt : i < m ∧ i < 20
    · have hi1 : (i : Int) < (m : Int) := by omega
      have hi2 : (i : Int) < 20 := by omega
      have hi0 : (0 : Int) ≤ (i : Int) := by omega
      obtain ⟨tb, toff, htp, htx⟩ := HSS.out.cellJ2 (p := vp) (n := m) (c := vc) rfl (i := i) (by rw [← HMM.out]; exact hlt.1)
      subst htp
      obtain ⟨T, hT⟩ : ∃ T, T = tt.getD i ⟨#[]⟩ := ⟨_, rfl⟩
      rw [← hT] at htx
      have HTX : Hid (∀ u, Below w.heap.size w u → u.cell? ⟨tb, toff + i, none⟩ = some (.string T)) := fun u hu => (hu.cell (block_lt_of_cell htx)).trans htx
      clear htx hT
      have htc := HTX.out wr HS.out.on.below
      by_cases hT : 1024 < T.size
      · have HL := Lib.hid (HS.out.appL T hT)
        have hT1 : ¬ (T.size : Int) ≤ 1024 := by omega
        clear hT
        go_wp2_with fail
        refine HL.out.mono ?_
        rintro e w3 ⟨rfl, rfl⟩
        go_wp2_with fail
        exact ⟨⟨i + 1, D, ss, rfl, rfl, by omega, by omega, by have := HZZ.out; omega, HS.out, HF.out, HO.out, HFW.out, HLN.out⟩, by simp only [intOf]; omega⟩
      · have HL := Lib.hid (HS.out.appF T (aRes_ok (by omega) (by have := HZZ.out; omega)))
        have hTn : T.size ≤ 1024 := by omega
        clear hT
        go_wp2_with fail
        refine HL.out.mono ?_
        rintro e w3 ⟨rfl, D3, hst, hc, hal, hfr⟩
        have HO3 := Lib.hid (HO.out.chg hc (HS.out.log.muts3 HS.out.on.disk))
        have HF3 := Lib.hid (hfr _ (fun k hk => (HO.out.lt hk).2))
        have HW3 : Hid (FullW D3) := hal.fullW HFW.out hst.ac
        have HL3 : Hid (D3.l.length = 1) := by unfold Hid; rw [hal.len]; exact HLN.out
        have HS3 := Lib.hid hst
        have hbn : Below w3.heap.size w3 (w3.alloc (.cells #[.string T] 9)) := (Below.refl _ _).alloc (Nat.le_refl _) _
        have HS3a := Lib.hid (hst.grow hbn)
        have HO3a := Lib.hid (HO3.out.below hbn)
        have HF3a := Lib.hid (HF3.out.below hbn)
        have htc3 := HTX.out w3 hst.on.below
        have hssl : ss.length ≤ 262144 := by have := HS.out.n; omega
        have HSL := Lib.hid hssl
        clear hst hc hal hfr HL htc HS HO HF HFW HLN hbn hssl
        go_wp2_with (at_builtin; refine wpList_append_z (news := [T]) rfl _ _ rfl rfl HO3a.out ⟨w3.heap.size, 0, none⟩ 1 1 rfl rfl ?e1 ?e2 ?e3 ?_)
        case e1 =>
          intro j hj
          obtain rfl : j = 0 := by omega
          simp [Addr.add]
        case e2 => have := HSL.out; omega
        case e3 => exact HS3a.out.on.below.size
        intro v4 w4 ho4 hg4 hv4 hk4
        have HS4 := Lib.hid (HS3a.out.appendedZ HF3a.out HO3a.out hg4 hk4 HW3.out)
        have HF4 := Lib.hid (HF3a.out.appendedZ (v' := v4) HO3a.out hg4 (by simpa using hv4))
        have HO4 := Lib.hid ho4
        clear ho4 hg4 hv4 hk4 HS3 HS3a HO3 HO3a HF3 HF3a htc3
        have hTi : (T.size : Int) ≤ 1024 := by omega
        go_wp2_with fail
        refine wp_region_U 15 (fun u => u.cell? ⟨tb, toff + i, none⟩ = some (.string T)) (by kernel_rfl) ?_
        change wpAnyU _ _ _ _ _ _ 16 (Array.replicate 16 false) _ _
        obtain ⟨wd, hwd⟩ : ∃ x, x = w4.drew := ⟨_, rfl⟩
        rw [← hwd]
        have hbd : Below w4.heap.size w4 wd := by rw [hwd]; exact (Below.refl _ _).drew
        replace HS4 := Lib.hid (HS4.out.grow hbd)
        replace HO4 := Lib.hid (HO4.out.below hbd)
        replace HF4 := Lib.hid (HF4.out.below hbd)
        clear hwd hbd
        have hx := HTX.out wd HS4.out.on.below
        refine takeU 0 (v := ?_) rfl (by kernel_rfl) (by kernel_rfl) (fun _ _ _ h => h) rfl (fun u hu => ?_) hx ?_
        rotate_left
        · skip; go_simp <;> with_reducible rfl
        simp only [Act.put, List.setIfInBounds_toArray, List.set_cons_zero, List.set_cons_succ]
        refine takeU 1 (v := ?_) rfl (by kernel_rfl) (by kernel_rfl) (fun _ _ _ h => h) rfl (fun u hu => ?_) hx ?_
        rotate_left
        · skip; go_simp <;> with_reducible rfl
        simp only [Act.put, List.setIfInBounds_toArray, List.set_cons_zero, List.set_cons_succ]
        refine takeU 2 (v := ?_) rfl (by kernel_rfl) (by kernel_rfl) (fun _ _ _ h => h) rfl (fun u hu => ?_) hx ?_
        rotate_left
        · skip; go_simp <;> with_reducible rfl
        simp only [Act.put, List.setIfInBounds_toArray, List.set_cons_zero, List.set_cons_succ]
        refine takeU 3 (v := ?_) rfl (by kernel_rfl) (by kernel_rfl) (fun _ _ _ h => h) rfl (fun u hu => ?_) hx ?_
        rotate_left
        · skip; go_simp <;> with_reducible rfl
        simp only [Act.put, List.setIfInBounds_toArray, List.set_cons_zero, List.set_cons_succ]
        refine takeU 4 (v := ?_) rfl (by kernel_rfl) (by kernel_rfl) (fun _ _ _ h => h) rfl (fun u hu => ?_) hx ?_
        rotate_left
        · skip; go_simp <;> with_reducible rfl
        simp only [Act.put, List.setIfInBounds_toArray, List.set_cons_zero, List.set_cons_succ]
        refine takeU 5 (v := ?_) rfl (by kernel_rfl) (by kernel_rfl) (fun _ _ _ h => h) rfl (fun u hu => ?_) hx ?_
        rotate_left
        · skip; go_simp <;> with_reducible rfl
        simp only [Act.put, List.setIfInBounds_toArray, List.set_cons_zero, List.set_cons_succ]
        refine takeU 9 (v := ?_) rfl (by kernel_rfl) (by kernel_rfl) (fun _ _ _ h => h) rfl (fun u hu => ?_) hx ?_
        rotate_left
        · skip; go_simp <;> with_reducible rfl
        simp only [Act.put, List.setIfInBounds_toArray, List.set_cons_zero, List.set_cons_succ]
        refine takeU 10 (v := ?_) rfl (by kernel_rfl) (by kernel_rfl) (fun _ _ _ h => h) rfl (fun u hu => ?_) hx ?_
        rotate_left
        · skip; go_simp <;> with_reducible rfl
        simp only [Act.put, List.setIfInBounds_toArray, List.set_cons_zero, List.set_cons_succ]
        refine takeU 11 (v := ?_) rfl (by kernel_rfl) (by kernel_rfl) (fun _ _ _ h => h) rfl (fun u hu => ?_) hx ?_
        rotate_left
        · skip; go_simp <;> with_reducible rfl
        simp only [Act.put, List.setIfInBounds_toArray, List.set_cons_zero, List.set_cons_succ]
        refine takeU 12 (v := ?_) rfl (by kernel_rfl) (by kernel_rfl) (fun _ _ _ h => h) rfl (fun u hu => ?_) hx ?_
        rotate_left
        · skip; go_simp <;> with_reducible rfl
        simp only [Act.put, List.setIfInBounds_toArray, List.set_cons_zero, List.set_cons_succ]
        refine oneU 6 (by kernel_rfl) ?_
        refine runU 6 (v := .slice (some ⟨wd.heap.size, 0, none⟩) 4 4) (w' := row4 wd T.size) rfl (by kernel_rfl) (by kernel_rfl) ?_ ?_
        · unfold row4
          go_simp
        have hb4 := below_row4 wd T.size
        replace HS4 := Lib.hid (HS4.out.grow hb4)
        replace HO4 := Lib.hid (HO4.out.below hb4)
        replace HF4 := Lib.hid (HF4.out.below hb4)
        clear hx hb4
        have hx := HTX.out _ HS4.out.on.below
        refine ⟨hx, ?_⟩
        have hcv := conv4 wd T.size hTn
        simp only [Act.put, List.setIfInBounds_toArray, List.set_cons_zero, List.set_cons_succ]
        refine oneU 7 (by kernel_rfl) ?_
        refine runU 7 (v := .string (strOf (num T.size 4))) (w' := row4 wd T.size) rfl (by kernel_rfl) (by kernel_rfl) ?_ ⟨hx, ?_⟩
        · go_simp
        simp only [Act.put, List.setIfInBounds_toArray, List.set_cons_zero, List.set_cons_succ]
        have m1 : ¬ 9223372036854775807 < (strOf (linkL (ss.map bs))).size + (strOf (num T.size 4)).size := by rw [size_strOf, size_strOf, length_num, length_linkL]; decide
        have m2 : ¬ 9223372036854775807 < (strOf (linkL (ss.map bs))).size + (strOf (num T.size 4)).size + T.size := by rw [size_strOf, size_strOf, length_num, length_linkL]; omega
        refine takeU 8 (v := ?_) rfl (by kernel_rfl) (by kernel_rfl) (fun _ _ _ h => h) rfl (fun u hu => ?_) hx ?_
        rotate_left
        · skip; go_simp <;> with_reducible rfl
        simp only [Act.put, List.setIfInBounds_toArray, List.set_cons_zero, List.set_cons_succ]
        refine takeU 13 (v := ?_) rfl (by kernel_rfl) (by kernel_rfl) (fun _ _ _ h => h) rfl (fun u hu => ?_) hx ?_
        rotate_left
        · skip; go_simp <;> with_reducible rfl
        simp only [Act.put, List.setIfInBounds_toArray, List.set_cons_zero, List.set_cons_succ]
        have HX8 := Lib.hid (link_next ss T)
        have hbs : (strOf (linkL (ss.map bs)) ++ strOf (num T.size 4) ++ T).size ≤ 576460752303423488 := by rw [ByteArray.size_append, ByteArray.size_append, size_strOf, size_strOf, length_num, length_linkL]; omega
        have H14 := Lib.hid (sum256W (strOf (linkL (ss.map bs)) ++ strOf (num T.size 4) ++ T) (row4 wd T.size) hbs)
        refine oneU 14 (by kernel_rfl) ?_
        refine callU 14 rfl (by kernel_rfl) rfl 9 _ _ rfl #[.string (strOf (linkL (ss.map bs)) ++ strOf (num T.size 4) ++ T)] (by simp [Act.eval]) (enters_of Tryd.func9 (by kernel_rfl) rfl) (fun v w' => v = .string (strOf (linkL ((ss ++ [T]).map bs))) ∧ Hid (Below (row4 wd T.size).heap.size (row4 wd T.size) w')) (H14.out.mono fun e w' ⟨h1, h2⟩ => ⟨_, h1, by rw [HX8.out], h2⟩) ?_
        rintro v w5 ⟨rfl, hK⟩
        replace HS4 := Lib.hid (HS4.out.grow hK.out)
        replace HO4 := Lib.hid (HO4.out.below hK.out)
        replace HF4 := Lib.hid (HF4.out.below hK.out)
        clear hK hx
        have hx := HTX.out w5 HS4.out.on.below
        refine ⟨hx, ?_⟩
        simp only [Act.put, List.setIfInBounds_toArray, List.set_cons_zero, List.set_cons_succ]
        refine oneU 15 (by kernel_rfl) ?_
        refine endU (v := ?_) 15 rfl (by kernel_rfl) (by kernel_rfl) rfl ?_ ?_
        rotate_left
        · go_simp <;> with_reducible rfl
        simp only [Act.put, List.setIfInBounds_toArray, List.set_cons_zero, List.set_cons_succ]
        clear hx hcv m1 m2 hbs H14
        go_wp2_with fail
        exact ⟨⟨i + 1, D3, ss ++ [T], rfl, by rw [List.map_append]; rfl, by omega, by omega, by rw [zT_snoc]; have := HZZ.out; omega, HS4.out, HF4.out, HO4.out, HW3.out, HL3.out⟩, by simp only [intOf]; omega⟩
    · rcases (show ¬ i < m ∨ (i < m ∧ ¬ i < 20) by omega) with h1 | ⟨h1, h2⟩
      · have hi1 : ¬ (i : Int) < (m : Int) := by omega
        clear hlt h1
        obtain ⟨p9, c9, rfl⟩ := HO.out.shape
        have HX9 : Hid (Strs wr (.slice p9 ss.length c9) ss) := HO.out.ws.strs
        have HFIT : Hid (∀ s ∈ ss, s.size ≤ 1024) := HS.out.ac.fit
        have HZ : Hid (zT ss ≤ 262144) := HS.out.z
        have HSZ : Hid ((fileS ss).size = zT ss) := size_fileS ss
        have hqb : ss.length ≤ 1048576 := by have := HS.out.n; omega
        obtain ⟨q, hq⟩ : ∃ q, q = ss.length := ⟨_, rfl⟩
        obtain ⟨L, hL⟩ : ∃ L, L = strOf (linkL (ss.map bs)) := ⟨_, rfl⟩
        obtain ⟨F, hF⟩ : ∃ F, F = fileS ss := ⟨_, rfl⟩
        have HRD := Lib.hid HS.out.readF
        have HVE := Lib.hid HS.out.verify
        have HTX := Lib.hid (fun (wx : World) (h : ASt w.heap.size w b g cap la 0 262144 ss 0 D wx) => h.texts)
        have HLK := Lib.hid (fun (wx : World) (h : ASt w.heap.size w b g cap la 0 262144 ss 0 D wx) => h.link)
        have HCU := Lib.hid (fun a w ha => averCut ss a w HFIT.out HZ.out ha)
        rw [← hF] at HRD HVE HSZ HCU
        rw [← hL] at HVE HLK
        rw [← hq] at HX9 HVE HTX HCU hqb
        rw [← hq, ← hL]
        have HQQ := Lib.hid hq
        clear HO HF HFW HLN HFIT hq hL hF
        go_wp2_with fail
        refine HRD.out.mono ?_
        rintro e w4 ⟨rfl, hb⟩
        replace HS := Lib.hid (HS.out.grow hb)
        replace HX9 := Lib.hid (HX9.out.below hb)
        clear hb HRD
        go_wp2_with fail
        refine (HVE.out _).mono ?_
        rintro e w5 ⟨p5, rfl, hs5, hb⟩
        replace HS := Lib.hid (HS.out.grow hb)
        replace HX9 := Lib.hid (HX9.out.below hb)
        have HSM := Lib.hid (sameW _ _ ss ss w5 hs5 HX9.out (by rw [← HQQ.out]; exact hqb) (by rw [← HQQ.out]; exact hqb))
        rw [decide_eq_true rfl] at HSM
        clear hb HVE hs5
        go_wp2_with fail
        refine HSM.out.mono ?_
        rintro e w6 ⟨rfl, hb⟩
        replace HS := Lib.hid (HS.out.grow hb)
        replace HX9 := Lib.hid (HX9.out.below hb)
        have HT6 := Lib.hid (HTX.out _ HS.out)
        clear hb HSM HTX
        go_wp2_with fail
        refine HT6.out.mono ?_
        rintro e w7 ⟨p7, rfl, hs7, hb⟩
        replace HS := Lib.hid (HS.out.grow hb)
        replace HX9 := Lib.hid (HX9.out.below hb)
        have HSM := Lib.hid (sameW _ _ ss ss w7 hs7 HX9.out (by rw [← HQQ.out]; exact hqb) (by rw [← HQQ.out]; exact hqb))
        rw [decide_eq_true rfl] at HSM
        clear hb HT6 hs7
        go_wp2_with fail
        refine HSM.out.mono ?_
        rintro e w8 ⟨rfl, hb⟩
        replace HS := Lib.hid (HS.out.grow hb)
        have HK8 := Lib.hid (HLK.out _ HS.out)
        clear hb HSM HX9 HLK
        go_wp2_with fail
        refine HK8.out.mono ?_
        rintro e w9 ⟨rfl, rfl⟩
        clear HK8
        have HBE := Lib.hid HS.out.on.below
        clear HS
        by_cases hz : F.size = 0
        · have hz1 : (F.size : Int) = 0 := by omega
          clear hz
          go_wp2_with fail
          refine (afixedW _).mono ?_
          rintro e w10 ⟨rfl, hb⟩
          have HB10 := Lib.hid (HBE.out.trans (hb.mono HBE.out.size))
          clear hb
          go_wp2_with fail
          go_ret
          exact ⟨rfl, HB10.out⟩
        · have hz1 : ¬ (F.size : Int) = 0 := by omega
          obtain ⟨r, hr⟩ : ∃ r, at_.tmod (F.size : Int) = r := ⟨_, rfl⟩
          have hr1 : -(F.size : Int) < r ∧ r < (F.size : Int) := by
            rw [← hr]
            refine ⟨?_, Int.tmod_lt_of_pos _ (by omega)⟩
            have h := Int.tmod_lt_of_pos (-at_) (b := (F.size : Int)) (by omega)
            rw [Int.neg_tmod] at h
            omega
          have hFz : (F.size : Int) ≤ 262144 := by have := HSZ.out; have := HZ.out; omega
          clear hz
          by_cases hn : r < 0
          · have hw : wrap64 (r + (F.size : Int)) = r + (F.size : Int) := by unfold wrap64; omega
            have g0 : 0 ≤ r + (F.size : Int) := by omega
            have g1 : r + (F.size : Int) ≤ (F.size : Int) := by omega
            have HV := Lib.hid (HCU.out (r + (F.size : Int)).toNat w9 (by have := HSZ.out; omega))
            go_wp2_with fail
            refine HV.out.mono ?_
            rintro e w10 ⟨rfl | ⟨p10, n10, s10, hn, rfl⟩, hb⟩
            · have HB10 := Lib.hid (HBE.out.trans (hb.mono HBE.out.size))
              clear hb HV HCU
              go_wp2_with fail
              refine (afixedW _).mono ?_
              rintro e w11 ⟨rfl, hb⟩
              replace HB10 := Lib.hid (HB10.out.trans (hb.mono HB10.out.size))
              clear hb
              go_wp2_with fail
              go_ret
              exact ⟨rfl, HB10.out⟩
            · have HB10 := Lib.hid (HBE.out.trans (hb.mono HBE.out.size))
              have hn1 : ¬ (q : Int) ≤ (n10 : Int) := by omega
              clear hb HV HCU hn
              go_wp2_with fail
              refine (afixedW _).mono ?_
              rintro e w11 ⟨rfl, hb⟩
              replace HB10 := Lib.hid (HB10.out.trans (hb.mono HB10.out.size))
              clear hb
              go_wp2_with fail
              go_ret
              exact ⟨rfl, HB10.out⟩
          · have g0 : 0 ≤ r := by omega
            have g1 : r ≤ (F.size : Int) := by omega
            have HV := Lib.hid (HCU.out r.toNat w9 (by have := HSZ.out; omega))
            go_wp2_with fail
            refine HV.out.mono ?_
            rintro e w10 ⟨rfl | ⟨p10, n10, s10, hn, rfl⟩, hb⟩
            · have HB10 := Lib.hid (HBE.out.trans (hb.mono HBE.out.size))
              clear hb HV HCU
              go_wp2_with fail
              refine (afixedW _).mono ?_
              rintro e w11 ⟨rfl, hb⟩
              replace HB10 := Lib.hid (HB10.out.trans (hb.mono HB10.out.size))
              clear hb
              go_wp2_with fail
              go_ret
              exact ⟨rfl, HB10.out⟩
            · have HB10 := Lib.hid (HBE.out.trans (hb.mono HBE.out.size))
              have hn1 : ¬ (q : Int) ≤ (n10 : Int) := by omega
              clear hb HV HCU hn
              go_wp2_with fail
              refine (afixedW _).mono ?_
              rintro e w11 ⟨rfl, hb⟩
              replace HB10 := Lib.hid (HB10.out.trans (hb.mono HB10.out.size))
              clear hb
              go_wp2_with fail
              go_ret
              exact ⟨rfl, HB10.out⟩
      · have hi1 : (i : Int) < (m : Int) := by omega
        have hi2 : ¬ (i : Int) < 20 := by omega
        clear hlt h1 h2
        obtain ⟨p9, c9, rfl⟩ := HO.out.shape
        have HX9 : Hid (Strs wr (.slice p9 ss.length c9) ss) := HO.out.ws.strs
        have HFIT : Hid (∀ s ∈ ss, s.size ≤ 1024) := HS.out.ac.fit
        have HZ : Hid (zT ss ≤ 262144) := HS.out.z
        have HSZ : Hid ((fileS ss).size = zT ss) := size_fileS ss
        have hqb : ss.length ≤ 1048576 := by have := HS.out.n; omega
        obtain ⟨q, hq⟩ : ∃ q, q = ss.length := ⟨_, rfl⟩
        obtain ⟨L, hL⟩ : ∃ L, L = strOf (linkL (ss.map bs)) := ⟨_, rfl⟩
        obtain ⟨F, hF⟩ : ∃ F, F = fileS ss := ⟨_, rfl⟩
        have HRD := Lib.hid HS.out.readF
        have HVE := Lib.hid HS.out.verify
        have HTX := Lib.hid (fun (wx : World) (h : ASt w.heap.size w b g cap la 0 262144 ss 0 D wx) => h.texts)
        have HLK := Lib.hid (fun (wx : World) (h : ASt w.heap.size w b g cap la 0 262144 ss 0 D wx) => h.link)
        have HCU := Lib.hid (fun a w ha => averCut ss a w HFIT.out HZ.out ha)
        rw [← hF] at HRD HVE HSZ HCU
        rw [← hL] at HVE HLK
        rw [← hq] at HX9 HVE HTX HCU hqb
        rw [← hq, ← hL]
        have HQQ := Lib.hid hq
        clear HO HF HFW HLN HFIT hq hL hF
        go_wp2_with fail
        refine HRD.out.mono ?_
        rintro e w4 ⟨rfl, hb⟩
        replace HS := Lib.hid (HS.out.grow hb)
        replace HX9 := Lib.hid (HX9.out.below hb)
        clear hb HRD
        go_wp2_with fail
        refine (HVE.out _).mono ?_
        rintro e w5 ⟨p5, rfl, hs5, hb⟩
        replace HS := Lib.hid (HS.out.grow hb)
        replace HX9 := Lib.hid (HX9.out.below hb)
        have HSM := Lib.hid (sameW _ _ ss ss w5 hs5 HX9.out (by rw [← HQQ.out]; exact hqb) (by rw [← HQQ.out]; exact hqb))
        rw [decide_eq_true rfl] at HSM
        clear hb HVE hs5
        go_wp2_with fail
        refine HSM.out.mono ?_
        rintro e w6 ⟨rfl, hb⟩
        replace HS := Lib.hid (HS.out.grow hb)
        replace HX9 := Lib.hid (HX9.out.below hb)
        have HT6 := Lib.hid (HTX.out _ HS.out)
        clear hb HSM HTX
        go_wp2_with fail
        refine HT6.out.mono ?_
        rintro e w7 ⟨p7, rfl, hs7, hb⟩
        replace HS := Lib.hid (HS.out.grow hb)
        replace HX9 := Lib.hid (HX9.out.below hb)
        have HSM := Lib.hid (sameW _ _ ss ss w7 hs7 HX9.out (by rw [← HQQ.out]; exact hqb) (by rw [← HQQ.out]; exact hqb))
        rw [decide_eq_true rfl] at HSM
        clear hb HT6 hs7
        go_wp2_with fail
        refine HSM.out.mono ?_
        rintro e w8 ⟨rfl, hb⟩
        replace HS := Lib.hid (HS.out.grow hb)
        have HK8 := Lib.hid (HLK.out _ HS.out)
        clear hb HSM HX9 HLK
        go_wp2_with fail
        refine HK8.out.mono ?_
        rintro e w9 ⟨rfl, rfl⟩
        clear HK8
        have HBE := Lib.hid HS.out.on.below
        clear HS
        by_cases hz : F.size = 0
        · have hz1 : (F.size : Int) = 0 := by omega
          clear hz
          go_wp2_with fail
          refine (afixedW _).mono ?_
          rintro e w10 ⟨rfl, hb⟩
          have HB10 := Lib.hid (HBE.out.trans (hb.mono HBE.out.size))
          clear hb
          go_wp2_with fail
          go_ret
          exact ⟨rfl, HB10.out⟩
        · have hz1 : ¬ (F.size : Int) = 0 := by omega
          obtain ⟨r, hr⟩ : ∃ r, at_.tmod (F.size : Int) = r := ⟨_, rfl⟩
          have hr1 : -(F.size : Int) < r ∧ r < (F.size : Int) := by
            rw [← hr]
            refine ⟨?_, Int.tmod_lt_of_pos _ (by omega)⟩
            have h := Int.tmod_lt_of_pos (-at_) (b := (F.size : Int)) (by omega)
            rw [Int.neg_tmod] at h
            omega
          have hFz : (F.size : Int) ≤ 262144 := by have := HSZ.out; have := HZ.out; omega
          clear hz
          by_cases hn : r < 0
          · have hw : wrap64 (r + (F.size : Int)) = r + (F.size : Int) := by unfold wrap64; omega
            have g0 : 0 ≤ r + (F.size : Int) := by omega
            have g1 : r + (F.size : Int) ≤ (F.size : Int) := by omega
            have HV := Lib.hid (HCU.out (r + (F.size : Int)).toNat w9 (by have := HSZ.out; omega))
            go_wp2_with fail
            refine HV.out.mono ?_
            rintro e w10 ⟨rfl | ⟨p10, n10, s10, hn, rfl⟩, hb⟩
            · have HB10 := Lib.hid (HBE.out.trans (hb.mono HBE.out.size))
              clear hb HV HCU
              go_wp2_with fail
              refine (afixedW _).mono ?_
              rintro e w11 ⟨rfl, hb⟩
              replace HB10 := Lib.hid (HB10.out.trans (hb.mono HB10.out.size))
              clear hb
              go_wp2_with fail
              go_ret
              exact ⟨rfl, HB10.out⟩
            · have HB10 := Lib.hid (HBE.out.trans (hb.mono HBE.out.size))
              have hn1 : ¬ (q : Int) ≤ (n10 : Int) := by omega
              clear hb HV HCU hn
              go_wp2_with fail
              refine (afixedW _).mono ?_
              rintro e w11 ⟨rfl, hb⟩
              replace HB10 := Lib.hid (HB10.out.trans (hb.mono HB10.out.size))
              clear hb
              go_wp2_with fail
              go_ret
              exact ⟨rfl, HB10.out⟩
          · have g0 : 0 ≤ r := by omega
            have g1 : r ≤ (F.size : Int) := by omega
            have HV := Lib.hid (HCU.out r.toNat w9 (by have := HSZ.out; omega))
            go_wp2_with fail
            refine HV.out.mono ?_
            rintro e w10 ⟨rfl | ⟨p10, n10, s10, hn, rfl⟩, hb⟩
            · have HB10 := Lib.hid (HBE.out.trans (hb.mono HBE.out.size))
              clear hb HV HCU
              go_wp2_with fail
              refine (afixedW _).mono ?_
              rintro e w11 ⟨rfl, hb⟩
              replace HB10 := Lib.hid (HB10.out.trans (hb.mono HB10.out.size))
              clear hb
              go_wp2_with fail
              go_ret
              exact ⟨rfl, HB10.out⟩
            · have HB10 := Lib.hid (HBE.out.trans (hb.mono HBE.out.size))
              have hn1 : ¬ (q : Int) ≤ (n10 : Int) := by omega
              clear hb HV HCU hn
              go_wp2_with fail
              refine (afixedW _).mono ?_
              rintro e w11 ⟨rfl, hb⟩
              replace HB10 := Lib.hid (HB10.out.trans (hb.mono HB10.out.size))
              clear hb
              go_wp2_with fail
              go_ret
              exact ⟨rfl, HB10.out⟩
end Go.Proofs.YtilpbjcbffbjeaaDoor
