/- The document's disk: Files, After. -/
import Derived.Test.YtilpbjcbffbjeaaGreatDoorDRef5
namespace Go.Proofs.YtilpbjcbffbjeaaGreatDoor
set_option linter.unusedVariables false
set_option maxRecDepth 100000
open Go.RowKit
theorem OwnsS.empty (w : World) : OwnsS (w.alloc (.cells #[] 9)) w.heap.size (.slice (some ⟨w.heap.size, 0, none⟩) 0 0) [] :=
  ⟨rfl, .inr ⟨w.heap.size, 0, #[], rfl, Nat.le_refl _, heap_alloc_new w _, Nat.le_refl _, by unfold maxLen; omega, rfl, rfl⟩⟩
set_option maxRecDepth 100000 in
set_option maxHeartbeats 800000 in
theorem rfilesW {B : Nat} {w0 w : World} {b g cap : Nat} {D : Dk} (h : IsR B w0 w b g cap D) (hok : DOk D) :
    Calls Tryz.prog 40 #[.pointer (some ⟨b, 0, none⟩)] w fun e w' => ∃ v, e = .returned v ∧ OwnsS w' w.heap.size v D.files ∧ Below w.heap.size w w' := by
  obtain ⟨v0, c00, hrf⟩ := h.cells.1
  have hf := hrf.form
  subst hf
  have h2 := hrf.len
  have h3 := hrf.capm
  have hn := hok.n
  unfold maxLen at h3
  have HID := Lib.hid hrf
  have HOK := Lib.hid hok
  obtain ⟨W, hW⟩ : ∃ W, W = w.alloc (.cells #[] 9) := ⟨_, rfl⟩
  have ho := OwnsS.empty w
  have hb : Below w.heap.size w W := by rw [hW]; exact (Below.refl _ _).alloc (Nat.le_refl _) _
  rw [← hW] at ho
  have HO := Lib.hid ho
  have HB := Lib.hid hb
  have HC := Lib.hid c00
  obtain ⟨bb, hbb⟩ : ∃ n, n = w.heap.size := ⟨_, rfl⟩
  have HBB := Lib.hid hbb
  have HW := Lib.hid hW
  clear h hok ho hb hrf c00 hbb hW
  go_enter Tryz.func40, Tryz.ntmps40
  go_wp2_with fail
  rw [← HW.out]
  go_loopw [3, 4] (fun v vi wr => ∃ i : Nat, i ≤ D.l.length ∧ vi = .int .i64 (i : Nat) ∧ OwnsS wr w.heap.size v (D.files.take i) ∧ Below w.heap.size w wr) (fun _ vi _ => (D.l.length - intOf vi).toNat)
  case atStart => exact ⟨0, by omega, rfl, HO.out, HB.out⟩
  case round =>
    obtain ⟨i, hi, rfl, ho, hb⟩ := hrel
    have HO2 := Lib.hid ho
    have HB2 := Lib.hid hb
    have hfs := HID.out.keep (Chg.of_below (fun _ => False) hb) (muts_none _)
    have c00 := (hb.cell (block_lt_of_cell HC.out)).trans HC.out
    by_cases hlt : i < D.l.length
    · have c1 := hfs.safe i hlt
      obtain ⟨v, c2, hws⟩ := hfs.ws i hlt
      have hsz := HOK.out.size i hlt
      have hmn := HOK.out.many i hlt
      have htk := take_files D i hlt
      obtain ⟨f, hf⟩ : ∃ f, f = D.l.getD i Fl.zero := ⟨_, rfl⟩
      rw [← hf] at c1 hws hsz hmn htk
      obtain ⟨p, c, rfl, _⟩ := hws.form
      have HR := Lib.hid (rwholeW f (.slice p f.ws.length c) wr hws (by omega) (by omega))
      obtain ⟨m, hm⟩ : ∃ m, m = f.ws.length := ⟨_, rfl⟩
      rw [← hm] at c2 HR
      have HTK := Lib.hid htk
      clear ho hb hfs hf hws htk hm hmn
      go_wp2_with fail
      refine HR.out.mono ?_
      rintro e w3 ⟨rfl, hb3⟩
      have HO3 := Lib.hid (HO2.out.kept hb3)
      have HB3 := Lib.hid (HB2.out.trans (hb3.mono HB2.out.size))
      clear hb3 HO2 HB2 HR c1 c2 c00
      go_wp2_with (at_builtin; refine wpList_append_s rfl _ _ rfl rfl (HO3.out.alloc _) ⟨w3.heap.size, 0, none⟩ 1 (rd f) rfl ?d1 ?d2 ?d3 ?_)
      case d1 => simp
      case d2 => have := List.length_take_le i D.files; omega
      case d3 => have := HB3.out.size; simp; omega
      intro v5 w5 ho5 hg5
      rw [← HTK.out] at ho5
      have HO5 := Lib.hid ho5
      have HB5 := Lib.hid ((HB3.out.alloc HB3.out.size _).grown hg5 (by have := HB3.out.size; simp; omega) (fun k hk => (HO3.out.block hk).1))
      clear ho5 hg5 HO3 HB3
      go_wp2_with fail
      exact ⟨⟨i + 1, by omega, rfl, HO5.out, HB5.out⟩, by simp [intOf]; omega⟩
    · have hfin : D.files.take i = D.files := List.take_of_length_le (by rw [length_files]; omega)
      rw [hfin] at HO2
      clear ho hb hfs hfin
      go_wp2_with fail
      go_ret
      exact ⟨_, rfl, HO2.out, HB2.out⟩
set_option maxRecDepth 100000 in
set_option maxHeartbeats 800000 in
theorem rafterW {B : Nat} {w0 w : World} {b g cap : Nat} {D : Dk} (h : IsR B w0 w b g cap D) (hok : DOk D) (cv : Value) (css : List (List Int)) (hcs : Rss w cv css) (hcl : ∀ i, (css.getD i []).length ≤ 140737488355328) :
    Calls Tryz.prog 146 #[.pointer (some ⟨b, 0, none⟩), cv] w fun e w' => ∃ v, e = .returned v ∧ OwnsS w' w.heap.size v (D.after css) ∧ Below w.heap.size w w' := by
  obtain ⟨v0, c00, hrf⟩ := h.cells.1
  have hf := hrf.form
  subst hf
  have h2 := hrf.len
  have h3 := hrf.capm
  have hn := hok.n
  unfold maxLen at h3
  have HID := Lib.hid hrf
  have HOK := Lib.hid hok
  have HCL := Lib.hid hcl
  obtain ⟨W, hW⟩ : ∃ W, W = w.alloc (.cells #[] 9) := ⟨_, rfl⟩
  have ho := OwnsS.empty w
  have hb : Below w.heap.size w W := by rw [hW]; exact (Below.refl _ _).alloc (Nat.le_refl _) _
  rw [← hW] at ho
  have HO := Lib.hid ho
  have HB := Lib.hid hb
  have HC := Lib.hid c00
  obtain ⟨cp, ccap, rfl, hcell⟩ := hcs
  have HCC := Lib.hid hcell
  obtain ⟨CN, hCN⟩ : ∃ n, n = css.length := ⟨_, rfl⟩
  rw [← hCN]
  have HCN := Lib.hid hCN
  have HW := Lib.hid hW
  clear h hok ho hb hrf c00 hW hcell hCN hcl
  go_enter Tryz.func146, Tryz.ntmps146
  go_wp2_with fail
  rw [← HW.out]
  go_loopw [5, 6] (fun v vi wr => ∃ i : Nat, i ≤ D.l.length ∧ vi = .int .i64 (i : Nat) ∧ OwnsS wr w.heap.size v ((D.after css).take i) ∧ Below w.heap.size w wr) (fun _ vi _ => (D.l.length - intOf vi).toNat)
  case atStart => exact ⟨0, by omega, rfl, HO.out, HB.out⟩
  case round =>
    obtain ⟨i, hi, rfl, ho, hb⟩ := hrel
    have HO2 := Lib.hid ho
    have HB2 := Lib.hid hb
    have hfs := HID.out.keep (Chg.of_below (fun _ => False) hb) (muts_none _)
    have c00 := (hb.cell (block_lt_of_cell HC.out)).trans HC.out
    by_cases hlt : i < D.l.length
    · have c1 := hfs.safe i hlt
      obtain ⟨v, c2, hws⟩ := hfs.ws i hlt
      have hsz := HOK.out.size i hlt
      have hmn := HOK.out.many i hlt
      have htk := take_after D css i hlt
      have hcln := HCL.out i
      obtain ⟨f, hf⟩ : ∃ f, f = D.l.getD i Fl.zero := ⟨_, rfl⟩
      rw [← hf] at c1 hws hsz hmn htk
      obtain ⟨p, c, rfl, _⟩ := hws.form
      obtain ⟨cs, hcs⟩ : ∃ cs, cs = css.getD i [] := ⟨_, rfl⟩
      rw [← hcs] at htk hcln
      have hsA : (wr.alloc (.cells #[] 3)).cell? ⟨g, i * 2, none⟩ = some (.string f.safe) := (World.cell?_alloc_lt _ _ _ (block_lt_of_cell c1)).trans c1
      have hsB : (wr.alloc (.cells #[] 3)).cell? ⟨g, i * 2 + 1, none⟩ = some (.slice p f.ws.length c) := (World.cell?_alloc_lt _ _ _ (block_lt_of_cell c2)).trans c2
      have hsC : (wr.alloc (.cells #[] 3)).cell? ⟨b, 0, none⟩ = some (.slice (some ⟨g, 0, none⟩) D.l.length cap) := (World.cell?_alloc_lt _ _ _ (block_lt_of_cell c00)).trans c00
      have hb1 : Below wr.heap.size wr (wr.alloc (.cells #[] 3)) := (Below.refl _ _).alloc (Nat.le_refl _) _
      have HR : Hid (∀ v, Ints (wr.alloc (.cells #[] 3)) v cs → Calls Tryz.prog 169 #[.agg #[.string f.safe, .slice p f.ws.length c], v] (wr.alloc (.cells #[] 3)) fun e w' => e = .returned (.string (left f cs)) ∧ Below (wr.alloc (.cells #[] 3)).heap.size (wr.alloc (.cells #[] 3)) w') := fun v hv => rleavesW f (.slice p f.ws.length c) v cs _ (hws.below hb1) hv (by omega) (by omega) hcln
      obtain ⟨m, hm⟩ : ∃ m, m = f.ws.length := ⟨_, rfl⟩
      rw [← hm] at hsB c2 HR
      have HTK := Lib.hid htk
      have HCS := Lib.hid hcs
      have HB1 := Lib.hid hb1
      clear ho hb hfs hf hws htk hm hmn hcs hcln hb1
      by_cases hci : i < CN
      · obtain ⟨cb, co, u, hcp, hcx, hcu⟩ := HCC.out i (by rw [← HCN.out]; exact hci)
        subst hcp
        rw [← HCS.out] at hcu
        have hb0 : Below w.heap.size w (wr.alloc (.cells #[] 3)) := HB2.out.alloc HB2.out.size _
        have hcw := (hb0.cell (block_lt_of_cell hcx)).trans hcx
        have HCU := Lib.hid (hcu.below hb0)
        obtain ⟨up, uc, rfl, _⟩ := hcu.form
        clear hcx hcu hb0
        go_wp2_with fail
        refine (HR.out _ HCU.out).mono ?_
        rintro e w3 ⟨rfl, hb3⟩
        have hb3' : Below wr.heap.size wr w3 := HB1.out.trans (hb3.mono HB1.out.size)
        have HO3 := Lib.hid (HO2.out.kept hb3')
        have HB3 := Lib.hid (HB2.out.trans (hb3'.mono HB2.out.size))
        clear hb3 hb3' HO2 HB2 HR c1 c2 hcw HCU hsA hsB hsC c00
        go_wp2_with (at_builtin; refine wpList_append_s rfl _ _ rfl rfl (HO3.out.alloc _) ⟨w3.heap.size, 0, none⟩ 1 (left f cs) rfl ?d1 ?d2 ?d3 ?_)
        case d1 => simp
        case d2 => have := List.length_take_le i (D.after css); omega
        case d3 => have := HB3.out.size; simp; omega
        intro v5 w5 ho5 hg5
        rw [← HTK.out] at ho5
        have HO5 := Lib.hid ho5
        have HB5 := Lib.hid ((HB3.out.alloc HB3.out.size _).grown hg5 (by have := HB3.out.size; simp; omega) (fun k hk => (HO3.out.block hk).1))
        clear ho5 hg5 HO3 HB3
        go_wp2_with fail
        exact ⟨⟨i + 1, by omega, rfl, HO5.out, HB5.out⟩, by simp [intOf]; omega⟩
      · have hcs0 : cs = [] := by rw [HCS.out, List.getD_eq_getElem?_getD, List.getElem?_eq_none (by rw [← HCN.out]; omega)]; rfl
        have HR2 : Hid (∀ pp, Calls Tryz.prog 169 #[.agg #[.string f.safe, .slice p m c], .slice pp 0 0] (wr.alloc (.cells #[] 3)) fun e w' => e = .returned (.string (left f cs)) ∧ Below (wr.alloc (.cells #[] 3)).heap.size (wr.alloc (.cells #[] 3)) w') := fun pp => HR.out _ (by rw [hcs0]; exact Ints.mk (p := pp) (cap := 0) (zs := []) (fun i hi => absurd hi (Nat.not_lt_zero _)))
        clear hcs0
        go_wp2_with fail
        refine (HR2.out _).mono ?_
        rintro e w3 ⟨rfl, hb3⟩
        have hb3' : Below wr.heap.size wr w3 := HB1.out.trans (hb3.mono HB1.out.size)
        have HO3 := Lib.hid (HO2.out.kept hb3')
        have HB3 := Lib.hid (HB2.out.trans (hb3'.mono HB2.out.size))
        clear hb3 hb3' HO2 HB2 HR HR2 c1 c2 hsA hsB hsC c00
        go_wp2_with (at_builtin; refine wpList_append_s rfl _ _ rfl rfl (HO3.out.alloc _) ⟨w3.heap.size, 0, none⟩ 1 (left f cs) rfl ?d1 ?d2 ?d3 ?_)
        case d1 => simp
        case d2 => have := List.length_take_le i (D.after css); omega
        case d3 => have := HB3.out.size; simp; omega
        intro v5 w5 ho5 hg5
        rw [← HTK.out] at ho5
        have HO5 := Lib.hid ho5
        have HB5 := Lib.hid ((HB3.out.alloc HB3.out.size _).grown hg5 (by have := HB3.out.size; simp; omega) (fun k hk => (HO3.out.block hk).1))
        clear ho5 hg5 HO3 HB3
        go_wp2_with fail
        exact ⟨⟨i + 1, by omega, rfl, HO5.out, HB5.out⟩, by simp [intOf]; omega⟩
    · have hfin : i = D.l.length := by omega
      rw [List.take_of_length_le (by rw [length_after]; omega)] at ho
      have HO3 := Lib.hid ho
      clear ho hb hfs hfin
      go_wp2_with fail
      go_ret
      exact ⟨_, rfl, HO3.out, HB2.out⟩
end Go.Proofs.YtilpbjcbffbjeaaGreatDoor
