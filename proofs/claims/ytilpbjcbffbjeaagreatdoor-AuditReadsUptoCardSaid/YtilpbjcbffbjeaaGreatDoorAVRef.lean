/- The document's Verify. -/
import Derived.Test.YtilpbjcbffbjeaaGreatDoorAVer
import Derived.Test.YtilpbjcbffbjeaaGreatDoorAFixed
import Derived.Test.YtilpbjcbffbjeaaGreatDoorWRef2
import Derived.Test.YtilpbjcbffbjeaaGreatDoorPkN
namespace Go.Proofs.YtilpbjcbffbjeaaGreatDoor
set_option linter.unusedVariables false
set_option maxRecDepth 100000
open Go.RowKit
theorem OwnsS.emptyV (w : World) : OwnsS (w.alloc (.cells #[] 9)) w.heap.size (.slice (some ⟨w.heap.size, 0, none⟩) 0 0) [] :=
  ⟨rfl, .inr ⟨w.heap.size, 0, _, rfl, Nat.le_refl _, heap_alloc_new w _, Nat.le_refl _, Nat.zero_le _, rfl, by simp⟩⟩
theorem rwA_none (s : ByteArray) (a : Nat) (ha : a ≤ s.size) (h : whole ((bs s).drop a) = none) (w : World) (hs : s.size ≤ 1099511627776) : Calls Tryz.prog 96 #[.string s, .int .i64 (a : Nat)] w fun e w' => e = .returned (.tuple #[.int .i64 0, .string ⟨#[]⟩, .int .i64 0, .bool false]) ∧ Below w.heap.size w w' := by
  have h1 := rWholeLW s a w hs (by omega)
  rw [wholeAt_nat s a ha, h] at h1
  exact h1
theorem rwA_some (s : ByteArray) (a : Nat) (ha : a ≤ s.size) {n : Nat} {q : List Nat} (h : whole ((bs s).drop a) = some (n, q)) (w : World) (hs : s.size ≤ 1099511627776) : Calls Tryz.prog 96 #[.string s, .int .i64 (a : Nat)] w fun e w' => e = .returned (.tuple #[.int .i64 (n : Nat), .string (strOf q), .int .i64 ((a + (19 + q.length) : Nat) : Int), .bool true]) ∧ Below w.heap.size w w' := by
  have h1 := rWholeLW s a w hs (by omega)
  rw [wholeAt_nat s a ha, h] at h1
  exact h1
theorem rfirstW (w : World) : Calls Tryz.prog 97 #[] w fun e w' => e = .returned (.string (strOf firstL)) ∧ Below w.heap.size w w' := by
  have hmk : (Instr.makeSlice 126 (.int .i64 32) (.int .i64 32)).run Tryz.prog w = .ok (.slice (some ⟨w.heap.size, 0, none⟩) 32 32) (w.alloc (.cells (madeCells #[.int .u8 0] 32) 5)) := makeBA w 32 (by decide)
  have hcv := convBA w 32
  go_enter Tryz.func97, Tryz.ntmps97
  go_wp2_with fail
  go_ret
  exact ⟨rfl, (Below.refl _ _).alloc (Nat.le_refl _) _⟩
theorem rnextW (l t : ByteArray) (w : World) (hl : l.size ≤ 1048576) (ht : t.size ≤ 1048576) :
    Calls Tryz.prog 98 #[.string l, .string t] w fun e w' => e = .returned (.string (strOf (nextL (bs l) (bs t)))) ∧ Below w.heap.size w w' := by
  obtain ⟨s, hs⟩ : ∃ s, s = l ++ strOf (num t.size 4) ++ t := ⟨_, rfl⟩
  have hsz : s.size ≤ 140737488354000 := by rw [hs, ByteArray.size_append, ByteArray.size_append, size_strOf, length_num]; omega
  have hbs : Sha.sum Sha.k32 (bs s) = nextL (bs l) (bs t) := by
    rw [hs, bs_append, bs_append, bs_strOf _ (num_lt _ _)]; unfold nextL; rw [length_bs, List.append_assoc]
  have H := Lib.hid (fun w => rsumK kindOf0 s w hsz)
  rw [hbs] at H
  have H2 := Lib.hid (fun w => rnumW t.size 4 w (by omega) (by decide))
  have HS := Lib.hid hs.symm
  have m1 : ¬ 9223372036854775807 < l.size + (strOf (num t.size 4)).size := by rw [size_strOf, length_num]; omega
  have m2 : ¬ 9223372036854775807 < l.size + (strOf (num t.size 4)).size + t.size := by rw [size_strOf, length_num]; omega
  clear hsz hbs hs
  go_enter Tryz.func98, Tryz.ntmps98
  go_wp2_with fail
  refine (H2.out _).mono ?_
  rintro e w1 ⟨rfl, hb1⟩
  have HB1 := Lib.hid hb1
  clear hb1
  go_wp2_with fail
  rw [HS.out]
  refine (H.out _).mono ?_
  rintro e w2 ⟨rfl, hb2⟩
  replace HB1 := Lib.hid (HB1.out.trans (hb2.mono HB1.out.size))
  clear hb2
  go_wp2_with fail
  go_ret
  exact ⟨rfl, HB1.out⟩
set_option maxHeartbeats 1600000 in
theorem rwholeAW (X : ByteArray) (w : World) (hs : X.size ≤ 1048576) :
    Calls Tryz.prog 67 #[.string X] w fun e w' => ∃ v, e = .returned (.tuple #[v, .int .i64 (lens (scan (bs X)) : Nat)]) ∧ OwnsS w' w.heap.size v ((scan (bs X)).map strOf) ∧ Below w.heap.size w w' := by
  have HXS := Lib.hid hs
  go_enter Tryz.func67, Tryz.ntmps67
  go_wp2_with fail
  obtain ⟨wq, hwq⟩ : ∃ W, W = w.alloc (.cells #[] 9) := ⟨_, rfl⟩
  have HBq : Hid (Below w.heap.size w wq) := by unfold Hid; rw [hwq]; exact (Below.refl _ _).alloc (Nat.le_refl _) _
  have HOq : Hid (OwnsS wq w.heap.size (.slice (some ⟨w.heap.size, 0, none⟩) 0 0) []) := by
    unfold Hid; rw [hwq]; exact OwnsS.emptyV w
  rw [← hwq]
  clear hwq hs
  go_loopw [4, 5] (fun v4 v5 w2 => ∃ (a : Nat) (qs : List (List Nat)), v5 = .int .i64 (a : Nat) ∧ OwnsS w2 w.heap.size v4 (qs.map strOf) ∧ ScanAt (bs X) 0 qs a ∧ Below w.heap.size w w2) (fun _ v _ => ((X.size : Int) + 1 - intOf v).toNat)
  case atStart => exact ⟨0, [], rfl, HOq.out, ScanAt.start _ _ (Nat.zero_le _), HBq.out⟩
  case round =>
    obtain ⟨a, qs, rfl, ho, hsc, hb⟩ := hrel
    obtain ⟨p20, c20, rfl⟩ := ho.shape
    obtain ⟨m, hm⟩ : ∃ m, m = (qs.map strOf).length := ⟨_, rfl⟩
    rw [← hm] at ho ⊢
    have hml : m = qs.length := by rw [hm, List.length_map]
    have HML := Lib.hid hml
    have HO1 := Lib.hid ho
    have HSC := Lib.hid hsc
    have HB1 := Lib.hid hb
    have hqa : a ≤ X.size := by have := hsc.le; rwa [length_bs] at this
    have hmb : m ≤ 1048576 := by
      have h1 := hsc.pos
      have h2 := lens_ge qs
      have := HXS.out
      omega
    clear ho hsc hb hm hml
    have fin : (∀ p, whole ((bs X).drop a) ≠ some (qs.length + 1, p)) → qs = Go.Proofs.YtilpbjcbffbjeaaGreatDoor.scan (bs X) := fun h => by have := HSC.out.done h; rwa [List.drop_zero] at this
    have HFIN := Lib.hid fin
    clear fin
    rcases hS : whole ((bs X).drop a) with _ | ⟨n, qq⟩
    · have hqr := HFIN.out (fun p h => by rw [hS] at h; cases h)
      have hfa : a = lens (Go.Proofs.YtilpbjcbffbjeaaGreatDoor.scan (bs X)) := by rw [← hqr]; have := HSC.out.pos; omega
      have HW := Lib.hid (fun w => rwA_none X a hqa hS w (by have := HXS.out; omega))
      have HQR := Lib.hid hqr
      have HFA := Lib.hid hfa
      clear hS hqr HSC hfa HFIN
      go_wp2_with fail
      refine (HW.out _).mono ?_
      rintro e w3 ⟨rfl, hb3⟩
      have HO3 := Lib.hid (HO1.out.kept hb3)
      have HB3 := Lib.hid (HB1.out.trans (hb3.mono HB1.out.size))
      clear hb3 HW
      go_wp2_with fail
      go_ret2
      rw [← HFA.out, ← HQR.out]
      exact ⟨_, rfl, HO3.out, HB3.out⟩
    · by_cases hnn : n = qs.length + 1
      · have HW := Lib.hid (fun w => rwA_some X a hqa hS w (by have := HXS.out; omega))
        have hnx := HSC.out.next (bs_lt X) (by rw [hS, hnn])
        have HNX := Lib.hid hnx
        have hle2 := hnx.le
        rw [length_bs] at hle2
        have hni2 : (n : Int) = (m : Int) + 1 := by have := HML.out; omega
        have hps := HXS.out
        clear hnx hS hnn HFIN
        rw [hni2] at HW
        go_wp2_with fail
        refine (HW.out _).mono ?_
        rintro e w3 ⟨rfl, hb3⟩
        have HO3 := Lib.hid (HO1.out.kept hb3)
        have HB3 := Lib.hid (HB1.out.trans (hb3.mono HB1.out.size))
        have HZ3 : Hid (w.heap.size ≤ w3.heap.size) := HB3.out.size
        clear hb3 HW
        go_wp2_with (at_builtin; refine wpList_append_s rfl _ _ rfl rfl (HO3.out.alloc _) ⟨w3.heap.size, 0, none⟩ 1 (strOf qq) rfl (by simp) ?e1 (by have := HZ3.out; simp; omega) ?_)
        case e1 => rw [List.length_map, ← HML.out]; omega
        intro v4 w4 ho4 hg4
        have HO4 := Lib.hid ho4
        have HB4 := Lib.hid ((HB3.out.alloc HZ3.out _).grown hg4 (by have := HZ3.out; simp; omega) (fun k hk => (HO3.out.block hk).1))
        clear ho4 hg4
        go_wp2_with fail
        refine ⟨⟨a + (19 + qq.length), qs ++ [qq], rfl, by rw [List.map_append]; exact HO4.out, HNX.out, HB4.out⟩, by simp only [intOf]; omega⟩
      · have hni2 : ((n : Int) != (m : Int) + 1) = true := by
          have := HML.out
          rw [bne_iff_ne]; omega
        have hqr := HFIN.out (fun p h => by rw [hS] at h; injection h with h; injection h with h1 h2; exact hnn h1)
        have hfa : a = lens (Go.Proofs.YtilpbjcbffbjeaaGreatDoor.scan (bs X)) := by rw [← hqr]; have := HSC.out.pos; omega
        have HW := Lib.hid (fun w => rwA_some X a hqa hS w (by have := HXS.out; omega))
        have HQR := Lib.hid hqr
        have HFA := Lib.hid hfa
        clear hnn hS hqr HSC hfa HFIN
        go_wp2_with fail
        refine (HW.out _).mono ?_
        rintro e w3 ⟨rfl, hb3⟩
        have HO3 := Lib.hid (HO1.out.kept hb3)
        have HB3 := Lib.hid (HB1.out.trans (hb3.mono HB1.out.size))
        clear hb3 HW
        go_wp2_with fail
        go_ret2
        rw [← HFA.out, ← HQR.out]
        exact ⟨_, rfl, HO3.out, HB3.out⟩
theorem Strs.cellS {w : World} {v : Value} {ss : List ByteArray} (h : Strs w v ss) {p : Option Addr} {n c : Nat} (hv : v = .slice p n c) {i : Nat} (hi : i < ss.length) : ∃ b off, p = some ⟨b, off, none⟩ ∧ w.cell? ⟨b, off + i, none⟩ = some (.string (ss.getD i ⟨#[]⟩)) := by
  obtain ⟨p', c', e, hc⟩ := h.form
  rw [hv] at e
  injection e with e1 e2 e3
  subst e1
  exact hc i hi
theorem cutHi (s : ByteArray) (hi : Int) (h : Nat) (hh : hi = h) (h2 : h ≤ s.size) (w : World) :
    (Instr.slice 9 (.string s) none (some (.int .i64 hi)) none).run Tryz.prog w = .ok (.string (s.extract 0 h)) w := by
  subst hh
  simp [Instr.slice, run_underlying Tryz.underlying9, Instr.sliceBounds, Instr.sliceBound, asIntOf, h2]
theorem cutLo (s : ByteArray) (lo : Int) (l : Nat) (hl : lo = l) (h2 : l ≤ s.size) (w : World) :
    (Instr.slice 9 (.string s) (some (.int .i64 lo)) none none).run Tryz.prog w = .ok (.string (s.extract l s.size)) w := by
  subst hl
  simp [Instr.slice, run_underlying Tryz.underlying9, Instr.sliceBounds, Instr.sliceBound, asIntOf, h2]
theorem extract_strOf (p : List Nat) (hp : ∀ c ∈ p, c < 256) (a b : Nat) : (strOf p).extract a b = strOf ((p.drop a).take (b - a)) := by
  rw [← strOf_bs ((strOf p).extract a b), bs_extract, bs_strOf p hp]
theorem au_snoc_none (pre : List (List Nat)) (p : List Nat) : ((au (pre ++ [p])).2.2 = none) ↔ ((au pre).2.2 = none ∧ nextL (au pre).1 (txt p) = lnk p) := by
  rw [au_snoc]
  unfold auF
  simp only
  by_cases h : (au pre).2.2 = none
  · by_cases k : nextL (au pre).1 (txt p) = lnk p <;> simp [h, k]
  · simp [h]
theorem txts_snoc (pre : List (List Nat)) (p : List Nat) : txts (pre ++ [p]) = txts pre ++ [strOf (txt p)] := by unfold txts; rw [List.map_append]; rfl
theorem take_snoc (ps : List (List Nat)) (i : Nat) (hi : i < ps.length) : ps.take (i + 1) = ps.take i ++ [ps.getD i []] := by
  rw [List.take_add_one, List.getElem?_eq_getElem hi, List.getD_eq_getElem?_getD, List.getElem?_eq_getElem hi]; rfl
set_option maxHeartbeats 3200000 in
theorem rreadAW (v : Value) (ps : List (List Nat)) (w : World) (hv : Strs w v (ps.map strOf)) (hl : ps.length ≤ 1048576) (hp : ∀ p ∈ ps, p.length ≤ 16384 ∧ ∀ c ∈ p, c < 256) :
    Calls Tryz.prog 68 #[v] w fun e w' => Below w.heap.size w w' ∧
      (((¬ ∀ p ∈ ps, okP p) ∧ e = .returned (.tuple #[.slice none 0 0, .string ⟨#[]⟩, .int .i64 190])) ∨
       ((∀ p ∈ ps, okP p) ∧ (au ps).2.2 ≠ none ∧ e = .returned (.tuple #[.slice none 0 0, .string ⟨#[]⟩, .int .i64 192])) ∨
       ((∀ p ∈ ps, okP p) ∧ (au ps).2.2 = none ∧ ∃ u, e = .returned (.tuple #[u, .string (strOf (au ps).1), .int .i64 0]) ∧ OwnsS w' w.heap.size u (txts ps))) := by
  obtain ⟨vp, vc, rfl, _⟩ := hv.form
  have HSS := Lib.hid hv
  obtain ⟨m, hm⟩ : ∃ m, m = ps.length := ⟨_, rfl⟩
  rw [List.length_map] at HSS ⊢
  rw [← hm] at HSS hl ⊢
  have HMM := Lib.hid hm
  have HPP := Lib.hid hp
  clear hv hm hp
  go_enter Tryz.func68, Tryz.ntmps68
  go_wp2_with fail
  obtain ⟨wq, hwq⟩ : ∃ W, W = w.alloc (.cells #[] 9) := ⟨_, rfl⟩
  have HBq : Hid (Below w.heap.size w wq) := by unfold Hid; rw [hwq]; exact (Below.refl _ _).alloc (Nat.le_refl _) _
  have HOq : Hid (OwnsS wq w.heap.size (.slice (some ⟨w.heap.size, 0, none⟩) 0 0) []) := by
    unfold Hid; rw [hwq]; exact OwnsS.emptyV w
  rw [← hwq]
  clear hwq
  refine (rfirstW _).mono ?_
  rintro e w1 ⟨rfl, hb1⟩
  have HB1 := Lib.hid (HBq.out.trans (hb1.mono HBq.out.size))
  have HO1 := Lib.hid (HOq.out.kept hb1)
  clear hb1 HBq HOq
  go_wp2_with fail
  go_loopw [5, 6, 7, 8] (fun v5 v6 v7 v8 wr => ∃ (i : Nat), v8 = .int .i64 (i : Nat) ∧ i ≤ m ∧ v6 = .string (strOf (au (ps.take i)).1) ∧ v7 = .bool (decide ((au (ps.take i)).2.2 = none)) ∧ OwnsS wr w.heap.size v5 (txts (ps.take i)) ∧ (∀ p ∈ ps.take i, okP p) ∧ Below w.heap.size w wr) (fun _ _ _ v _ => (m - intOf v).toNat)
  case atStart => exact ⟨0, rfl, Nat.zero_le _, rfl, rfl, HO1.out, fun p h => by simp at h, HB1.out⟩
  case round =>
    clear HO1 HB1
    obtain ⟨i, rfl, him, rfl, rfl, hown, hok, hbr⟩ := hrel
    have HO := Lib.hid hown
    have HK := Lib.hid hok
    have HB := Lib.hid hbr
    clear hown hok hbr
    by_cases hlt : i < m
    · have hi1 : (i : Int) < (m : Int) := by omega
      have hi0 : (0 : Int) ≤ (i : Int) := by omega
      obtain ⟨p, hpe⟩ : ∃ p, p = ps.getD i [] := ⟨_, rfl⟩
      have hmem : p ∈ ps := by
        rw [hpe, List.getD_eq_getElem?_getD, List.getElem?_eq_getElem (by rw [← HMM.out]; exact hlt)]
        exact List.getElem_mem _
      have hts : ps.take (i + 1) = ps.take i ++ [p] := by rw [hpe]; exact take_snoc ps i (by rw [← HMM.out]; exact hlt)
      obtain ⟨hpl, hpb⟩ := HPP.out p hmem
      obtain ⟨s, hs⟩ : ∃ s, s = strOf p := ⟨_, rfl⟩
      have hss : s.size = p.length := by rw [hs, size_strOf]
      obtain ⟨tb, toff, htp, htx⟩ := HSS.out.cellS (p := vp) (n := m) (c := vc) rfl (i := i) (by rw [List.length_map, ← HMM.out]; exact hlt)
      have hge : (ps.map strOf).getD i ⟨#[]⟩ = s := by
        rw [hs, hpe, List.getD_eq_getElem?_getD, List.getElem?_map, List.getD_eq_getElem?_getD, List.getElem?_eq_getElem (by rw [← HMM.out]; exact hlt)]; rfl
      rw [hge] at htx
      subst htp
      have HTX : Hid (∀ u, Below w.heap.size w u → u.cell? ⟨tb, toff + i, none⟩ = some (.string s)) := fun u hu => (hu.cell (block_lt_of_cell htx)).trans htx
      clear htx hge
      have htc := HTX.out wr HB.out
      have hsb : s.size ≤ 16384 := by omega
      by_cases hokp : okP p
      · have h32 : 32 ≤ p.length ∧ p.length ≤ 1056 := hokp
        obtain ⟨L, hL⟩ : ∃ L, L = p.length - 32 := ⟨_, rfl⟩
        have hn : (s.size : Int) - 32 = (L : Int) := by omega
        have hn1 : ¬ (s.size : Int) - 32 < 0 := by omega
        have hn2 : ¬ 1024 < (s.size : Int) - 32 := by omega
        have hTe : s.extract 0 L = strOf (txt p) := by rw [hs, extract_strOf p hpb]; unfold txt; rw [List.drop_zero, Nat.sub_zero, hL]
        have hKe : s.extract L s.size = strOf (lnk p) := by
          rw [hss, hs, extract_strOf p hpb]; unfold lnk
          rw [List.take_of_length_le (by rw [List.length_drop]; omega), hL]
        have hT : ∀ w, (Instr.slice 9 (.string s) none (some (.int .i64 ((s.size : Int) - 32))) none).run Tryz.prog w = .ok (.string (strOf (txt p))) w := fun w => by rw [← hTe]; exact cutHi s _ L hn (by omega) w
        have hKs : ∀ w, (Instr.slice 9 (.string s) (some (.int .i64 ((s.size : Int) - 32))) none none).run Tryz.prog w = .ok (.string (strOf (lnk p))) w := fun w => by rw [← hKe]; exact cutLo s _ L hn (by omega) w
        have hlt1 : ∀ c ∈ txt p, c < 256 := fun c hc => hpb c (List.mem_of_mem_take hc)
        have hlt2 : ∀ c ∈ lnk p, c < 256 := fun c hc => hpb c (List.mem_of_mem_drop hc)
        have HNX := Lib.hid (fun w => rnextW (strOf (au (ps.take i)).1) (strOf (txt p)) w (by rw [size_strOf, length_au]; decide) (by rw [size_strOf]; unfold txt; rw [List.length_take]; omega))
        rw [bs_strOf _ (au_lt _), bs_strOf _ hlt1] at HNX
        have hau : (au (ps.take (i + 1))).1 = nextL (au (ps.take i)).1 (txt p) := by rw [hts, au_snoc]; rfl
        have htx : txts (ps.take (i + 1)) = txts (ps.take i) ++ [strOf (txt p)] := by rw [hts, txts_snoc]
        have hlen : (txts (ps.take i)).length ≤ 1048576 := by unfold txts; rw [List.length_map, List.length_take]; omega
        have hok2 : ∀ x ∈ ps.take (i + 1), okP x := by
          rw [hts]
          intro x hx
          rcases List.mem_append.1 hx with hx | hx
          · exact HK.out x hx
          · rw [List.mem_singleton.1 hx]; exact hokp
        have hnn := au_snoc_none (ps.take i) p
        rw [← hts] at hnn
        have hneq : strOf (nextL (au (ps.take i)).1 (txt p)) = strOf (lnk p) ↔ nextL (au (ps.take i)).1 (txt p) = lnk p := by
          constructor
          · intro h
            have h2 := congrArg bs h
            rwa [bs_strOf _ (nextL_lt _ _), bs_strOf _ hlt2] at h2
          · intro h; rw [h]
        obtain ⟨T, hTd⟩ : ∃ T, T = strOf (txt p) := ⟨_, rfl⟩
        obtain ⟨K, hKd⟩ : ∃ K, K = strOf (lnk p) := ⟨_, rfl⟩
        obtain ⟨N, hNd⟩ : ∃ N, N = strOf (nextL (au (ps.take i)).1 (txt p)) := ⟨_, rfl⟩
        obtain ⟨A, hAd⟩ : ∃ A, A = strOf (au (ps.take i)).1 := ⟨_, rfl⟩
        have hN2 : N = strOf (au (ps.take (i + 1))).1 := by rw [hNd, hau]
        rw [← hNd, ← hKd] at hneq
        rw [← hTd] at HNX hT htx
        rw [← hKd] at hKs
        rw [← hNd, ← hAd] at HNX
        rw [← hAd]
        have HN2 := Lib.hid hN2
        have HTXS := Lib.hid htx
        have HLEN := Lib.hid hlen
        have HOK2 := Lib.hid hok2
        have HNN := Lib.hid hnn
        have HNE := Lib.hid hneq
        clear hTd hKd hNd hAd hN2 htx hlen hok2 hnn hneq hau hlt1 hlt2 hTe hKe hn h32 hokp hs hts hpe hmem hpl hpb hss hL
        have fin : ∀ (c : Bool), (c = true ↔ (au (ps.take (i + 1))).2.2 = none) → Value.bool c = .bool (decide ((au (ps.take (i + 1))).2.2 = none)) := by
          intro c hc
          congr 1
          by_cases h : (au (ps.take (i + 1))).2.2 = none
          · rw [decide_eq_true h]; exact hc.2 h
          · rw [decide_eq_false h]
            cases c
            · rfl
            · exact absurd (hc.1 rfl) h
        have FIN := Lib.hid fin
        clear fin
        by_cases hr : (au (ps.take i)).2.2 = none
        · rw [decide_eq_true hr]
          have HR := Lib.hid hr
          clear hr
          have hcmp : (N.toList == K.toList) = decide (N = K) := toList_beqW N K
          go_wp2_with fail
          refine (HNX.out _).mono ?_
          rintro e w3 ⟨rfl, hb3⟩
          have htc3 := HTX.out w3 (HB.out.trans (hb3.mono HB.out.size))
          have HO3 := Lib.hid (HO.out.kept hb3)
          have HB3 := Lib.hid (HB.out.trans (hb3.mono HB.out.size))
          clear hb3 htc
          go_wp2_with (at_builtin; refine wpList_append_s rfl _ _ rfl rfl (HO3.out.alloc _) ⟨w3.heap.size, 0, none⟩ 1 T rfl (by simp) ?e1 (by have := HB3.out.size; simp; omega) ?_)
          case e1 => exact HLEN.out
          intro v4 w4 ho4 hg4
          have HO4 := Lib.hid ho4
          have HB4 := Lib.hid ((HB3.out.alloc HB3.out.size _).grown hg4 (by have := HB3.out.size; simp; omega) (fun k hk => (HO3.out.block hk).1))
          clear ho4 hg4 htc3
          go_wp2_with fail
          refine ⟨⟨i + 1, rfl, by omega, by rw [HN2.out], ?_, by rw [HTXS.out]; exact HO4.out, HOK2.out, HB4.out⟩, by simp only [intOf]; omega⟩
          refine FIN.out _ ?_
          rw [HNN.out, ← HNE.out]
          simp [HR.out]
        · rw [decide_eq_false hr]
          have HR := Lib.hid hr
          clear hr
          go_wp2_with fail
          refine (HNX.out _).mono ?_
          rintro e w3 ⟨rfl, hb3⟩
          have htc3 := HTX.out w3 (HB.out.trans (hb3.mono HB.out.size))
          have HO3 := Lib.hid (HO.out.kept hb3)
          have HB3 := Lib.hid (HB.out.trans (hb3.mono HB.out.size))
          clear hb3 htc
          go_wp2_with (at_builtin; refine wpList_append_s rfl _ _ rfl rfl (HO3.out.alloc _) ⟨w3.heap.size, 0, none⟩ 1 T rfl (by simp) ?e1 (by have := HB3.out.size; simp; omega) ?_)
          case e1 => exact HLEN.out
          intro v4 w4 ho4 hg4
          have HO4 := Lib.hid ho4
          have HB4 := Lib.hid ((HB3.out.alloc HB3.out.size _).grown hg4 (by have := HB3.out.size; simp; omega) (fun k hk => (HO3.out.block hk).1))
          clear ho4 hg4 htc3
          go_wp2_with fail
          refine ⟨⟨i + 1, rfl, by omega, by rw [HN2.out], ?_, by rw [HTXS.out]; exact HO4.out, HOK2.out, HB4.out⟩, by simp only [intOf]; omega⟩
          refine FIN.out _ ?_
          rw [HNN.out, ← HNE.out]
          simp [HR.out]
      · have HNO : Hid (¬ ∀ p ∈ ps, okP p) := fun h => hokp (h p hmem)
        rcases (show p.length < 32 ∨ (32 ≤ p.length ∧ 1056 < p.length) by unfold okP at hokp; omega) with h1 | ⟨h1, h2⟩
        · have hn1 : (s.size : Int) - 32 < 0 := by omega
          clear hs hts hpe hmem hokp hpl hpb hss h1
          go_wp2_with fail
          (refine bodyPost_ret (results_tmp3 rfl _ _ _) rfl ?_)
          exact ⟨HB.out, .inl ⟨by first | exact HNO.out | simpa using HNO.out, rfl⟩⟩
        · have hn1 : ¬ (s.size : Int) - 32 < 0 := by omega
          have hn2 : 1024 < (s.size : Int) - 32 := by omega
          clear hs hts hpe hmem hokp hpl hpb hss h1 h2
          go_wp2_with fail
          (refine bodyPost_ret (results_tmp3 rfl _ _ _) rfl ?_)
          exact ⟨HB.out, .inl ⟨by first | exact HNO.out | simpa using HNO.out, rfl⟩⟩
    · have hi1 : ¬ (i : Int) < (m : Int) := by omega
      have he : ps.take i = ps := by rw [show i = m by omega, HMM.out, List.take_length]
      rw [he] at HO HK ⊢
      clear hlt he
      by_cases hr : (au ps).2.2 = none
      · rw [decide_eq_true hr]
        have HR := Lib.hid hr
        clear hr
        go_wp2_with fail
        (refine bodyPost_ret (results_tmp3 rfl _ _ _) rfl ?_)
        exact ⟨HB.out, .inr (.inr ⟨HK.out, HR.out, _, rfl, HO.out⟩)⟩
      · rw [decide_eq_false hr]
        have HR := Lib.hid hr
        clear hr
        go_wp2_with fail
        (refine bodyPost_ret (results_tmp3 rfl _ _ _) rfl ?_)
        exact ⟨HB.out, .inr (.inl ⟨HK.out, HR.out, rfl⟩)⟩
theorem scanF_mem : ∀ (f : Nat) (m : List Nat) (k : Nat), (∀ c ∈ m, c < 256) → ∀ p ∈ scanF f m k, p.length ≤ 16384 ∧ ∀ c ∈ p, c < 256 := by
  intro f
  induction f with
  | zero => intro m k _ p hp; cases hp
  | succ f ih =>
    intro m k hm p hp
    by_cases h : ∃ q, whole m = some (k + 1, q)
    · obtain ⟨q, hq⟩ := h
      rw [scanF_step hq] at hp
      rcases List.mem_cons.1 hp with rfl | hp
      · obtain ⟨_, _, h3, B, e⟩ := whole_some hm hq
        refine ⟨h3, fun c hc => hm c ?_⟩
        rw [e]
        unfold recL
        simp [hc]
      · exact ih (m.drop (19 + q.length)) (k + 1) (fun c hc => hm c (List.mem_of_mem_drop hc)) p hp
    · rw [scanF_stop (fun q hq => h ⟨q, hq⟩)] at hp; cases hp
theorem scan_mem (m : List Nat) (hm : ∀ c ∈ m, c < 256) : ∀ p ∈ Go.Proofs.YtilpbjcbffbjeaaGreatDoor.scan m, p.length ≤ 16384 ∧ ∀ c ∈ p, c < 256 := scanF_mem _ _ _ hm
/-- The document's Verify. -/
theorem rverifyW (s : ByteArray) (w : World) (hs : s.size ≤ 1048576) :
    Calls Tryz.prog 28 #[.string s] w fun e w' => Below w.heap.size w w' ∧
      ((verErr (bs s) ≠ 0 ∧ e = .returned (.tuple #[.slice none 0 0, .string ⟨#[]⟩, .int .i64 (verErr (bs s))])) ∨
       (verErr (bs s) = 0 ∧ ∃ u, e = .returned (.tuple #[u, .string (strOf (au (Go.Proofs.YtilpbjcbffbjeaaGreatDoor.scan (bs s))).1), .int .i64 0]) ∧ Strs w' u (txts (Go.Proofs.YtilpbjcbffbjeaaGreatDoor.scan (bs s))))) := by
  obtain ⟨ps, hps⟩ : ∃ ps, ps = Go.Proofs.YtilpbjcbffbjeaaGreatDoor.scan (bs s) := ⟨_, rfl⟩
  have hmem : ∀ p ∈ ps, p.length ≤ 16384 ∧ ∀ c ∈ p, c < 256 := by rw [hps]; exact scan_mem _ (bs_lt s)
  have hle : lens ps ≤ s.size := by have := lens_scan (bs s) (bs_lt s); rw [length_bs] at this; rw [hps]; exact this
  have hge := lens_ge ps
  have hv1 : ((¬ ∀ p ∈ ps, okP p) ∨ lens ps < s.size) → verErr (bs s) = 190 := by
    unfold verErr; rw [length_bs, ← hps]; exact fun h => if_pos h
  have hv2 : ¬ ((¬ ∀ p ∈ ps, okP p) ∨ lens ps < s.size) → (au ps).2.2 ≠ none → verErr (bs s) = 192 := by
    unfold verErr; rw [length_bs, ← hps]; exact fun h k => by rw [if_neg h, if_pos k]
  have hv3 : ¬ ((¬ ∀ p ∈ ps, okP p) ∨ lens ps < s.size) → (au ps).2.2 = none → verErr (bs s) = 0 := by
    unfold verErr; rw [length_bs, ← hps]; exact fun h k => by rw [if_neg h, if_neg (by rw [k]; simp)]
  have HW := Lib.hid (rwholeAW s w hs)
  rw [← hps] at HW ⊢
  have HRD := Lib.hid (fun (v : Value) (w : World) (h : Strs w v (ps.map strOf)) => rreadAW v ps w h (by omega) hmem)
  have HV1 := Lib.hid hv1
  have HV2 := Lib.hid hv2
  have HV3 := Lib.hid hv3
  clear hv1 hv2 hv3 hps hmem hge
  go_enter Tryz.func28, Tryz.ntmps28
  go_wp2_with fail
  refine HW.out.mono ?_
  rintro e w1 ⟨v, rfl, ho, hb⟩
  have HO := Lib.hid ho
  have HB := Lib.hid hb
  clear ho hb HW
  by_cases hlt : lens ps < s.size
  · have hi : (lens ps : Int) < (s.size : Int) := by omega
    have HE : Hid (verErr (bs s) = 190) := HV1.out (.inr hlt)
    clear hlt
    go_wp2_with fail
    (refine bodyPost_ret (results_tmp3 rfl _ _ _) rfl ?_)
    rw [HE.out]
    exact ⟨HB.out, .inl ⟨by decide, rfl⟩⟩
  · have hi : ¬ (lens ps : Int) < (s.size : Int) := by omega
    have HNL := Lib.hid hlt
    clear hlt
    have HR := Lib.hid (HRD.out v w1 HO.out.ws.strs)
    go_wp2_with fail
    refine HR.out.mono ?_
    rintro e w2 ⟨hb, ⟨h1, rfl⟩ | ⟨h1, h2, rfl⟩ | ⟨h1, h2, u, rfl, hu⟩⟩
    · have HE : Hid (verErr (bs s) = 190) := HV1.out (.inl h1)
      have HB2 := Lib.hid (HB.out.trans (hb.mono HB.out.size))
      clear hb h1 HR HRD
      go_wp2_with fail
      (refine bodyPost_ret (results_tmp3 rfl _ _ _) rfl ?_)
      rw [HE.out]
      exact ⟨HB2.out, .inl ⟨by decide, rfl⟩⟩
    · have HE : Hid (verErr (bs s) = 192) := HV2.out (by rintro (h | h); exact h h1; exact HNL.out h) h2
      have HB2 := Lib.hid (HB.out.trans (hb.mono HB.out.size))
      clear hb h1 h2 HR HRD
      go_wp2_with fail
      (refine bodyPost_ret (results_tmp3 rfl _ _ _) rfl ?_)
      rw [HE.out]
      exact ⟨HB2.out, .inl ⟨by decide, rfl⟩⟩
    · have HE : Hid (verErr (bs s) = 0) := HV3.out (by rintro (h | h); exact h h1; exact HNL.out h) h2
      have HB2 := Lib.hid (HB.out.trans (hb.mono HB.out.size))
      have HU := Lib.hid hu.ws.strs
      clear hb h1 h2 hu HR HRD
      go_wp2_with fail
      (refine bodyPost_ret (results_tmp3 rfl _ _ _) rfl ?_)
      exact ⟨HB2.out, .inr ⟨HE.out, _, rfl, HU.out⟩⟩
theorem strsNilA (w : World) : Strs w (.slice none 0 0) [] := Strs.mk (ss := []) fun i hi => by cases hi
/-- AuditReads: any bytes are verified as the document says. -/
theorem readsLaw (s : ByteArray) (w : World) (hs : s.size ≤ 1048576) (hgl : ErrT w) :
    Calls Tryz.prog 4 #[.string s] w fun e w' => e = .returned (.bool true) ∧ Below w.heap.size w w' := by
  have hle : lens (Go.Proofs.YtilpbjcbffbjeaaGreatDoor.scan (bs s)) ≤ s.size := by have := lens_scan (bs s) (bs_lt s); rw [length_bs] at this; exact this
  have hge := lens_ge (Go.Proofs.YtilpbjcbffbjeaaGreatDoor.scan (bs s))
  have hl : (txts (Go.Proofs.YtilpbjcbffbjeaaGreatDoor.scan (bs s))).length ≤ 1048576 := by unfold txts; rw [List.length_map]; omega
  have HL := Lib.hid hl
  have H1 := Lib.hid (averW s w hs hgl)
  have H2 := Lib.hid (fun w => rverifyW s w hs)
  have fin : ∀ w1 : World, Below w.heap.size w w1 → Calls Tryz.prog 29 #[] w1 fun e w' => e = .returned (.bool true) ∧ Below w.heap.size w w' := fun w1 hb => (afixedW w1).mono fun e w' ⟨h1, h2⟩ => ⟨h1, hb.trans (h2.mono hb.size)⟩
  have HF := Lib.hid fin
  clear hle hge hl fin
  go_enter Tryz.func4, Tryz.ntmps4
  go_wp2_with fail
  refine H1.out.mono ?_
  rintro e w1 (⟨hne, rfl, hb⟩ | ⟨p, h0, _, _, _, rfl, hst, hb⟩)
  · obtain ⟨E, hE⟩ : ∃ E, E = verErr (bs s) := ⟨_, rfl⟩
    rw [← hE] at hne ⊢
    have HR := Lib.hid (H2.out w1)
    have HB := Lib.hid hb
    have HNE := Lib.hid hne
    rw [← hE] at HR
    clear hb H1 H2 hne hE
    go_wp2_with fail
    refine HR.out.mono ?_
    rintro e w2 ⟨hb, ⟨_, rfl⟩ | ⟨h0, _⟩⟩
    · have HB2 := Lib.hid (HB.out.trans (hb.mono HB.out.size))
      have HSM := Lib.hid (sameW _ _ [] [] w2 (strsNilA w2) (strsNilA w2) (by decide) (by decide))
      rw [decide_eq_true rfl] at HSM
      clear hb HR
      go_wp2_with fail
      refine HSM.out.mono ?_
      rintro e w3 ⟨rfl, hb⟩
      have HX := Lib.hid (HF.out w3 (HB2.out.trans (hb.mono HB2.out.size)))
      clear hb HSM
      go_wp2_with fail
      refine HX.out.mono ?_
      rintro e w4 ⟨rfl, hb⟩
      have HB4 := Lib.hid hb
      clear hb
      go_wp2_with fail
      go_ret
      exact ⟨rfl, HB4.out⟩
    · exact absurd h0 HNE.out
  · obtain ⟨ps, hps⟩ : ∃ ps, ps = Go.Proofs.YtilpbjcbffbjeaaGreatDoor.scan (bs s) := ⟨_, rfl⟩
    have HR := Lib.hid (H2.out w1)
    have HB := Lib.hid hb
    have HS1 := Lib.hid hst
    have H0 := Lib.hid h0
    rw [← hps] at HR HS1 HL ⊢
    obtain ⟨A, hA⟩ : ∃ A, A = strOf (au ps).1 := ⟨_, rfl⟩
    rw [← hA] at HR ⊢
    obtain ⟨n, hn⟩ : ∃ n, n = ps.length := ⟨_, rfl⟩
    rw [← hn] at HS1 ⊢
    clear hb hst h0 H1 H2 hps hA hn
    go_wp2_with fail
    refine HR.out.mono ?_
    rintro e w2 ⟨hb, ⟨hne, _⟩ | ⟨_, u, rfl, hu⟩⟩
    · exact absurd H0.out hne
    · have HB2 := Lib.hid (HB.out.trans (hb.mono HB.out.size))
      have HSM := Lib.hid (sameW _ _ _ _ w2 (HS1.out.below hb) hu HL.out HL.out)
      rw [decide_eq_true rfl] at HSM
      clear hb HR hu
      go_wp2_with fail
      refine HSM.out.mono ?_
      rintro e w3 ⟨rfl, hb⟩
      have HX := Lib.hid (HF.out w3 (HB2.out.trans (hb.mono HB2.out.size)))
      clear hb HSM
      go_wp2_with fail
      refine HX.out.mono ?_
      rintro e w4 ⟨rfl, hb⟩
      have HB4 := Lib.hid hb
      clear hb
      go_wp2_with fail
      go_ret
      exact ⟨rfl, HB4.out⟩
end Go.Proofs.YtilpbjcbffbjeaaGreatDoor
