/- The walk of DiskDoes. -/
import Derived.Test.YtennhmnmoamleaaDDoes7
namespace Go.Proofs.Ytennhmnmoamleaa
set_option linter.unusedVariables false
open Go.RowKit
theorem infoPD : (Try.prog.info? 24).map (fun i => (i.zero, i.size, i.bytes)) = some (some (.pointer none), 1, 8) := by kernel_rfl
theorem infoPR : (Try.prog.info? 28).map (fun i => (i.zero, i.size, i.bytes)) = some (some (.pointer none), 1, 8) := by kernel_rfl
theorem place_nat (n : Int) (m : Nat) (hm : 0 < m) : ∃ k : Nat, n % (m : Nat) = (k : Nat) ∧ k < m :=
  ⟨(n % (m : Int)).toNat, by have := Int.emod_nonneg n (show (m : Int) ≠ 0 by omega); omega, by have := Int.emod_nonneg n (show (m : Int) ≠ 0 by omega); have := Int.emod_lt_of_pos n (show (0 : Int) < m by omega); omega⟩
theorem Ptrs.cellAt {w : World} {B : Nat} {T : TypeId} {X n c : Nat} {px : Nat → Nat} (h : Ptrs w B T (.slice (some ⟨X, 0, none⟩) n c) n px) {j : Nat} (hj : j < n) : w.cell? ⟨X, j, none⟩ = some (.pointer (some ⟨px j, 0, none⟩)) := by
  obtain ⟨X', c', _, hv, _, _, _, hc⟩ := h.form (by omega)
  injection hv with h1 _ _
  injection h1 with h1
  injection h1 with h1
  subst h1
  exact hc j hj
theorem Ptrs.one {w : World} {B : Nat} {T : TypeId} {x X : Nat} (hX : w.heap[X]? = some (.cells #[.pointer (some ⟨x, 0, none⟩)] T (0, 0))) (hB : B ≤ X) : Ptrs w B T (.slice (some ⟨X, 0, none⟩) 1 1) 1 (fun _ => x) :=
  ⟨rfl, .inr ⟨X, 1, _, rfl, hB, hX, Nat.le_refl _, by unfold maxLen; omega, rfl, rfl⟩⟩
/-- The document's New has made what the program's New has. -/
theorem rnew_is {w0 w w' : World} {b : Nat} {v : Value} {ss : List ByteArray} (hbel : Below w0.heap.size w0 w') (hb : w0.heap.size ≤ b) (h : w'.heap[b]? = some (.cells #[v, .int .i64 0, .slice none 0 0, .bool false] 50 (0, 0))) (ho : OwnsRF w' (b + 1) v ss) (h0 : 0 < ss.length) :
    ∃ g cap, IsR w0.heap.size w0 w' b g cap (newDk ss) := by
  obtain ⟨g, cap, hv, _, hr⟩ := ho.rfs h0
  exact ⟨g, cap, ⟨v, .slice none 0 0, h, hr, Rss.nil w0⟩, hb, hbel, rfl⟩
theorem fine_new {ss : List ByteArray} (h : newErr ss = 0) : Fine (newDk ss) 0 := by
  refine ⟨newDk_ok h, fun f hf => ?_⟩
  have hf' : f < ss.length := by have e : (newDk ss).l.length = ss.length := by unfold newDk; rw [List.length_map]
                                 rw [e] at hf; exact hf
  have e : (newDk ss).l.getD f Fl.zero = ⟨ss.getD f ⟨#[]⟩, []⟩ := by unfold newDk; dsimp only; rw [List.getD_eq_getElem?_getD, List.getElem?_map, List.getElem?_eq_getElem hf', List.getD_eq_getElem?_getD, List.getElem?_eq_getElem hf']; rfl
  rw [e]
  exact Nat.le_refl _
set_option maxRecDepth 100000 in
set_option maxHeartbeats 6400000 in
theorem doesLaw {w : World} (v u : Value) (ss : List ByteArray) (os : List Opv) (h : Strs w v ss) (hl : ss.length ≤ 1048576) (hm : ∀ i, i < ss.length → (ss.getD i ⟨#[]⟩).size ≤ 1048576)
    (ho : Ops w u os) (hol : os.length ≤ 1048576) (hos : ∀ i, (os.getD i Opv.zero).s.size ≤ 1048576) (hoc : ∀ i, (os.getD i Opv.zero).ch.length ≤ 1048576) (hom : ∀ i j, ((os.getD i Opv.zero).ch.getD j []).length ≤ 1048576) (hon : ∀ i, (os.getD i Opv.zero).n ≤ 9223372036854775807) :
    Calls Try.prog 3 #[v, u] w fun e w' => e = .returned (.bool true) ∧ Below w.heap.size w w' := by
  have HNEW := Lib.hid (newW v ss h hl hm)
  have HSTR := Lib.hid h
  have HL := Lib.hid hl
  have HHM := Lib.hid hm
  obtain ⟨vp, vc, hve, _⟩ := h.form
  obtain ⟨up, uc, hue, hoc2⟩ := ho
  have HOPS := Lib.hid hoc2
  have HOS := Lib.hid hos
  have HOC := Lib.hid hoc
  have HOM := Lib.hid hom
  have HON := Lib.hid hon
  subst hve hue
  obtain ⟨m, hmm⟩ : ∃ m, m = os.length := ⟨_, rfl⟩
  obtain ⟨ns, hns⟩ : ∃ m, m = ss.length := ⟨_, rfl⟩
  rw [← hmm] at hol ⊢
  rw [← hns] at HNEW HSTR ⊢
  have HMM := Lib.hid hmm
  have HNS := Lib.hid hns
  clear h hl hm hoc2 hos hoc hom hon hmm hns
  go_enter Try.func3, Try.ntmps3
  go_wp2_with fail
  refine HNEW.out.mono ?_
  rintro e w1 ⟨hb1, hh⟩
  have HR := Lib.hid (rnewW (.slice vp ns vc) ss (HSTR.out.below hb1) HL.out HHM.out)
  have HB1 := Lib.hid hb1
  clear hb1 HNEW
  rcases hh with ⟨hne, rfl⟩ | ⟨he0, b, g, cap, rfl, hid, hbb, hgg⟩
  · have HNE := Lib.hid hne
    obtain ⟨er, her⟩ : ∃ er, er = newErr ss := ⟨_, rfl⟩
    have HER := Lib.hid her
    rw [← her] at HR ⊢
    clear hne her
    go_wp2_with fail
    refine HR.out.mono ?_
    rintro e w2 ⟨hb2, hh⟩
    have HB2 := Lib.hid (HB1.out.trans (hb2.mono HB1.out.size))
    rcases hh with ⟨_, rfl⟩ | ⟨he, _⟩
    · clear hb2
      go_wp2_with fail
      refine (fixedW w2).mono ?_
      rintro e w3 ⟨rfl, hb3⟩
      have HB3 := Lib.hid (HB2.out.trans (hb3.mono HB2.out.size))
      clear hb3
      go_wp2_with fail
      go_ret
      exact ⟨rfl, HB3.out⟩
    · exact absurd (by rw [← HER.out]; exact he) HNE.out
  · have hgood := newErr_good he0
    have hfn := fine_new he0
    have HE := Lib.hid he0
    have HG := Lib.hid hgood
    have HFN := Lib.hid hfn
    have HID := Lib.hid hid
    have HBG := Lib.hid (And.intro hbb hgg)
    clear he0 hgood hfn hid hbb hgg
    go_wp2_with fail
    refine HR.out.mono ?_
    rintro e w2 ⟨hb2, hh⟩
    rcases hh with ⟨hne, _⟩ | ⟨_, r, rv, rfl, hrb, hro, hrr⟩
    · exact absurd HE.out hne
    obtain ⟨g', cap', hisr⟩ := rnew_is (w := w) (HB1.out.trans (hb2.mono HB1.out.size)) (Nat.le_trans HB1.out.size hrr) hrb hro HG.out.1
    have hduo : Duo w.heap.size w w2 b g r (newDk ss) := ⟨⟨cap, HID.out.below hb2⟩, ⟨g', cap', hisr⟩, HBG.out.1, HBG.out.2⟩
    have HDUO := Lib.hid hduo
    have HB2 := Lib.hid (HB1.out.trans (hb2.mono HB1.out.size))
    clear hb2 hrb hro hrr hisr hduo HR
    go_wp2_with fail
    obtain ⟨W, hW⟩ : ∃ W, W = (w2.alloc (.cells #[.pointer (some ⟨b, 0, none⟩)] 24)).alloc (.cells #[.pointer (some ⟨r, 0, none⟩)] 28) := ⟨_, rfl⟩
    have hbW : Below w2.heap.size w2 W := by rw [hW]; exact ((Below.refl _ _).alloc (Nat.le_refl _) _).alloc (by simp) _
    have hx : W.heap[w2.heap.size]? = some (.cells #[.pointer (some ⟨b, 0, none⟩)] 24 (0, 0)) := by rw [hW]; exact (heap_lt (by simp)).trans (heap_alloc_new w2 _)
    have hy : W.heap[w2.heap.size + 1]? = some (.cells #[.pointer (some ⟨r, 0, none⟩)] 28 (0, 0)) := by
      have := heap_alloc_new (w2.alloc (.cells #[.pointer (some ⟨b, 0, none⟩)] 24)) (.cells #[.pointer (some ⟨r, 0, none⟩)] 28)
      rw [← hW] at this
      simpa using this
    have hherd : Herd w.heap.size w W 1 0 (fun _ => b) (fun _ => g) (fun _ => r) (fun _ => newDk ss) (.slice (some ⟨w2.heap.size, 0, none⟩) 1 1) (.slice (some ⟨w2.heap.size + 1, 0, none⟩) 1 1) :=
      ⟨⟨fun k _ => HDUO.out.grow hbW, fun k _ => HFN.out, fun j k hj hk hne => by omega, HB2.out.trans (hbW.mono HB2.out.size), rfl, by omega⟩, Ptrs.one hx HB2.out.size, Ptrs.one hy (by have := HB2.out.size; omega)⟩
    have HH0 := Lib.hid hherd
    rw [← hW]
    clear hW hbW hx hy hherd
    go_loopw [9, 10, 11] (fun vx vy vi wr => ∃ (i n : Nat) (bx gx rx : Nat → Nat) (D : Nat → Dk), i ≤ m ∧ n ≤ i + 1 ∧ vi = .int .i64 (i : Nat) ∧ Herd w.heap.size w wr n i bx gx rx D vx vy) (fun _ _ vi _ => (m - intOf vi).toNat)
    case atStart => exact ⟨0, 1, _, _, _, _, by omega, by omega, rfl, HH0.out⟩
    case round =>
      obtain ⟨i, n, bx, gx, rx, D, hi, hsml, rfl, hh⟩ := hrel
      have hpos := hh.core.pos
      obtain ⟨X, cx, xcs, hxe, hXB, hXh, hXc, hXcell⟩ := hh.xs.form hpos
      obtain ⟨Y, cy, ycs, hye, hYB, hYh, hYc, hYcell⟩ := hh.ys.form hpos
      subst hxe hye
      have HH := Lib.hid hh
      have HXH := Lib.hid hXh
      have HYH := Lib.hid hYh
      clear hh hXh hYh hXcell hYcell
      by_cases hlt : i < m
      · obtain ⟨ob, oo, rfl, c0, c1, c2, c3, c4, cv, c5, hcv⟩ := HOPS.out i (by rw [← HMM.out]; exact hlt)
        have hbr := HH.out.core.below
        have k := fun (a : Addr) (v : Value) (hc : w.cell? a = some v) => (hbr.cell (block_lt_of_cell hc)).trans hc
        replace c0 := k _ _ c0
        replace c1 := k _ _ c1
        replace c2 := k _ _ c2
        replace c3 := k _ _ c3
        replace c4 := k _ _ c4
        replace c5 := k _ _ c5
        have HQ0 := Lib.hid hcv
        obtain ⟨qp, qc, rfl, _⟩ := hcv
        have HS1 := Lib.hid (HOS.out i)
        have HC1 := Lib.hid (HOC.out i)
        have HC2 := Lib.hid (HOM.out i)
        have HN1 := Lib.hid (HON.out i)
        obtain ⟨o, hoo⟩ : ∃ o, o = os.getD i Opv.zero := ⟨_, rfl⟩
        rw [← hoo] at c0 c1 c2 c3 c4 c5 HS1 HC1 HC2 HN1 HQ0
        obtain ⟨qn, hqn⟩ : ∃ n, n = o.ch.length := ⟨_, rfl⟩
        rw [← hqn] at c5 HQ0
        have HQV := HQ0
        obtain ⟨bb, hbb⟩ : ∃ bb, bb = wr.heap.size := ⟨_, rfl⟩
        obtain ⟨W3, hW3⟩ : ∃ W, W = wr.alloc (.cells #[.int .i64 o.on, .int .i64 o.kind, .int .i64 o.f, .int .i64 o.n, .string o.s, .slice qp qn qc] 36) := ⟨_, rfl⟩
        have hb3 : Below wr.heap.size wr W3 := by rw [hW3]; exact (Below.refl _ _).alloc (Nat.le_refl _) _
        have hblk3 : W3.heap[bb]? = some (.cells #[.int .i64 o.on, .int .i64 o.kind, .int .i64 o.f, .int .i64 o.n, .string o.s, .slice qp qn qc] 36 (0, 0)) := by rw [hW3, hbb]; exact heap_alloc_new wr _
        have HH3 := Lib.hid (HH.out.grow hb3)
        have HXH3 := Lib.hid ((hb3.block X (Array.getElem?_eq_some_iff.1 HXH.out).1).trans HXH.out)
        have HYH3 := Lib.hid ((hb3.block Y (Array.getElem?_eq_some_iff.1 HYH.out).1).trans HYH.out)
        have HBLK3 := Lib.hid hblk3
        have HW3 := Lib.hid hW3
        have HBB := Lib.hid hbb
        have hbb3 : bb < W3.heap.size := (Array.getElem?_eq_some_iff.1 hblk3).1
        obtain ⟨j, hje, hj⟩ := place_nat o.on n hpos
        have HPL := Lib.hid (placeW o.on n hpos (by omega) W3)
        rw [hje] at HPL
        have j1 : (0 : Int) ≤ (j : Int) := by omega
        have j2 : (j : Int) < (n : Int) := by omega
        clear k hoo hqn hbr hW3 hb3 hblk3 hbb hje HH
        by_cases hk : o.kind = 8
        · have hk8 : (o.kind == 8) = true := by rw [beq_iff_eq]; exact hk
          clear hk
          go_wp2_with fail
          rw [← HW3.out, ← HBB.out]
          refine HPL.out.mono ?_
          rintro e w3 ⟨rfl, rfl⟩
          have k1 := cell_of_row W3 bb 1 _ _ _ HBLK3.out
          have kx := HH3.out.xs.cellAt hj
          go_wp2_with fail
          obtain ⟨capj, hpj⟩ := (HH3.out.core.duo j hj).p
          have HCL := Lib.hid (cloneW hpj (HH3.out.core.fine j hj).ok)
          clear hpj k1 kx
          refine HCL.out.mono ?_
          rintro e w5 ⟨b5, g5, cap5, rfl, hid5, hb5, hg5, hbe5⟩
          have hH5 := HH3.out.grow hbe5
          have HCO5 := Lib.hid hH5.core
          have HYS5 := Lib.hid hH5.ys
          have HXS5 := Lib.hid (hH5.xs.grow ((Below.refl w5.heap.size w5).alloc (Nat.le_refl _) (.cells #[.pointer (some ⟨b5, 0, none⟩)] 24)))
          have HXH5 := Lib.hid ((hbe5.block X (Array.getElem?_eq_some_iff.1 HXH3.out).1).trans HXH3.out)
          have HYH5 := Lib.hid ((hbe5.block Y (Array.getElem?_eq_some_iff.1 HYH3.out).1).trans HYH3.out)
          have HBLK5 := Lib.hid ((hbe5.block bb hbb3).trans HBLK3.out)
          have HID5 := Lib.hid hid5
          have HBG5 := Lib.hid (And.intro hb5 hg5)
          have HSZ5 := Lib.hid hbe5.size
          have hW5 := hH5.core.below.size
          clear hH5 hid5 hb5 hg5 hbe5 HCL
          obtain ⟨i0, hi0, hz0, hz1, hz2⟩ := info_parts infoPD
          have hrow5 := HXS5.out
          unfold Ptrs at hrow5
          have HROW5 := Lib.hid hrow5
          have HXNEW : Hid (∀ j u, [Value.pointer (some ⟨b5, 0, none⟩)][j]? = some u → (w5.alloc (.cells #[.pointer (some ⟨b5, 0, none⟩)] 24)).cell? ((⟨w5.heap.size, 0, none⟩ : Addr).add j) = some u) := fun j u hu => by
            have hj : j = 0 := by have := (List.getElem?_eq_some_iff.1 hu).1; simp at this; exact this
            subst hj
            rw [show u = .pointer (some ⟨b5, 0, none⟩) by simpa using hu.symm, show (⟨w5.heap.size, 0, none⟩ : Addr).add 0 = ⟨w5.heap.size, 0, none⟩ from rfl]
            simp
          clear hrow5
          go_wp2_with (at_builtin; refine wpList_append_own_at _ rfl _ _ 32 rfl w.heap.size 24 i0 (.pointer none) 1 8 Try.underlying32 hi0 hz0 hz1 hz2 rfl (by decide) (.slice (some ⟨X, 0, none⟩) n cx) n _ rfl HROW5.out ⟨w5.heap.size, 0, none⟩ 1 1 [.pointer (some ⟨b5, 0, none⟩)] rfl rfl HXNEW.out (by simp [Value.oneCell']) (by unfold maxLen; omega) (by omega) (by simp; omega) ?_)
          intro v6 w6 ho6 hg6 _ _
          have hal : Below w5.heap.size w5 (w5.alloc (.cells #[.pointer (some ⟨b5, 0, none⟩)] 24)) := (Below.refl _ _).alloc (Nat.le_refl _) _
          have hch6 : Chg (fun k => k = X) (w5.alloc (.cells #[.pointer (some ⟨b5, 0, none⟩)] 24)) w6 := Chg.of_grown hg6 rfl
          have hXa : (w5.alloc (.cells #[.pointer (some ⟨b5, 0, none⟩)] 24)).heap[X]? = _ := (hal.block X (Array.getElem?_eq_some_iff.1 HXH5.out).1).trans HXH5.out
          have hYa : (w5.alloc (.cells #[.pointer (some ⟨b5, 0, none⟩)] 24)).heap[Y]? = _ := (hal.block Y (Array.getElem?_eq_some_iff.1 HYH5.out).1).trans HYH5.out
          have hba : (w5.alloc (.cells #[.pointer (some ⟨b5, 0, none⟩)] 24)).heap[bb]? = _ := (hal.block bb (Array.getElem?_eq_some_iff.1 HBLK5.out).1).trans HBLK5.out
          have hpx : Ptrs w6 w.heap.size 24 v6 (n + 1) (fun k => if k = n then b5 else bx k) := Ptrs.snoc ho6
          have HCO6 := Lib.hid ((HCO5.out.grow hal).past hXa (.inl rfl) hXB hch6)
          have HYS6 := Lib.hid ((HYS5.out.grow hal).keep hch6 (fun k _ e cur fr hh => by subst e; exact blk_ne hXa hh (by decide) rfl))
          have HID6 := Lib.hid ((HID5.out.below hal).pastRow hXa (.inl rfl) hch6)
          have hYX : Y ≠ X := blk_ne hYa hXa (by decide)
          have hbX : bb ≠ X := blk_ne hba hXa (by decide)
          have HYH6 := Lib.hid ((hch6.block Y (Array.getElem?_eq_some_iff.1 hYa).1 hYX).trans hYa)
          have HBLK6 := Lib.hid ((hch6.block bb (Array.getElem?_eq_some_iff.1 hba).1 hbX).trans hba)
          have hs6 : w5.heap.size ≤ w6.heap.size := Nat.le_trans hal.size hch6.size
          obtain ⟨X6, c6, xcs6, hxe6, hXB6, hXh6, hXc6, _⟩ := hpx.form (by omega)
          subst hxe6
          have HXS6 := Lib.hid hpx
          have HXH6 := Lib.hid hXh6
          clear ho6 hg6 hal hch6 hXa hYa hba hpx hYX hbX hXh6 HCO5 HYS5 HXS5 HXH5 HYH5 HBLK5 HROW5 HXNEW HID5
          have ky := HYS6.out.cellAt hj
          obtain ⟨g6, c6', hq6⟩ := (HCO6.out.duo j hj).q
          have HCP := Lib.hid (rcopyW hq6 (HCO6.out.fine j hj).ok.n (HCO6.out.fine j hj).ok.pos)
          clear hq6
          go_wp2_with fail
          refine HCP.out.mono ?_
          rintro e w7 ⟨r7, g7, c7, rfl, hr7, hr7b, hb7⟩
          have HCO7 := Lib.hid (HCO6.out.grow hb7)
          have HXS7 := Lib.hid (HXS6.out.grow hb7)
          have hYS7 := (HYS6.out.grow hb7).grow ((Below.refl w7.heap.size w7).alloc (Nat.le_refl _) (.cells #[.pointer (some ⟨r7, 0, none⟩)] 28))
          have HID7 := Lib.hid (HID6.out.below hb7)
          have HR7 := Lib.hid hr7
          have HXH7 := Lib.hid ((hb7.block X6 (Array.getElem?_eq_some_iff.1 HXH6.out).1).trans HXH6.out)
          have HYH7 := Lib.hid ((hb7.block Y (Array.getElem?_eq_some_iff.1 HYH6.out).1).trans HYH6.out)
          have HBLK7 := Lib.hid ((hb7.block bb (Array.getElem?_eq_some_iff.1 HBLK6.out).1).trans HBLK6.out)
          have hs7 := hb7.size
          have hs7w : w.heap.size ≤ w7.heap.size := HCO7.out.below.size
          unfold Ptrs at hYS7
          have HROW7 := Lib.hid hYS7
          have HYNEW : Hid (∀ j u, [Value.pointer (some ⟨r7, 0, none⟩)][j]? = some u → (w7.alloc (.cells #[.pointer (some ⟨r7, 0, none⟩)] 28)).cell? ((⟨w7.heap.size, 0, none⟩ : Addr).add j) = some u) := fun j u hu => by
            have hj : j = 0 := by have := (List.getElem?_eq_some_iff.1 hu).1; simp at this; exact this
            subst hj
            rw [show u = .pointer (some ⟨r7, 0, none⟩) by simpa using hu.symm, show (⟨w7.heap.size, 0, none⟩ : Addr).add 0 = ⟨w7.heap.size, 0, none⟩ from rfl]
            simp
          obtain ⟨k0, ki0, kz0, kz1, kz2⟩ := info_parts infoPR
          clear hr7 hb7 hYS7 ky HCP HCO6 HXS6 HYS6 HID6 HXH6 HYH6 HBLK6
          go_wp2_with (at_builtin; refine wpList_append_own_at _ rfl _ _ 33 rfl w.heap.size 28 k0 (.pointer none) 1 8 Try.underlying33 ki0 kz0 kz1 kz2 rfl (by decide) (.slice (some ⟨Y, 0, none⟩) n cy) n _ rfl HROW7.out ⟨w7.heap.size, 0, none⟩ 1 1 [.pointer (some ⟨r7, 0, none⟩)] rfl rfl HYNEW.out (by simp [Value.oneCell']) (by unfold maxLen; omega) (by omega) (by simp; omega) ?_)
          intro v8 w8 ho8 hg8 _ _
          have hal : Below w7.heap.size w7 (w7.alloc (.cells #[.pointer (some ⟨r7, 0, none⟩)] 28)) := (Below.refl _ _).alloc (Nat.le_refl _) _
          have hch8 : Chg (fun k => k = Y) (w7.alloc (.cells #[.pointer (some ⟨r7, 0, none⟩)] 28)) w8 := Chg.of_grown hg8 rfl
          have hXa : (w7.alloc (.cells #[.pointer (some ⟨r7, 0, none⟩)] 28)).heap[X6]? = _ := (hal.block X6 (Array.getElem?_eq_some_iff.1 HXH7.out).1).trans HXH7.out
          have hYa : (w7.alloc (.cells #[.pointer (some ⟨r7, 0, none⟩)] 28)).heap[Y]? = _ := (hal.block Y (Array.getElem?_eq_some_iff.1 HYH7.out).1).trans HYH7.out
          have hba : (w7.alloc (.cells #[.pointer (some ⟨r7, 0, none⟩)] 28)).heap[bb]? = _ := (hal.block bb (Array.getElem?_eq_some_iff.1 HBLK7.out).1).trans HBLK7.out
          have hpy : Ptrs w8 w.heap.size 28 v8 (n + 1) (fun k => if k = n then r7 else rx k) := Ptrs.snoc ho8
          have hco8 := (HCO7.out.grow hal).past hYa (.inr rfl) hYB hch8
          have hxs8 := (HXS7.out.grow hal).keep hch8 (fun k _ e cur fr hh => by subst e; exact blk_ne hYa hh (by decide) rfl)
          have hid8 := (HID7.out.below hal).pastRow hYa (.inr rfl) hch8
          have hir8 := (HR7.out.grow hal).pastRow hYa (.inr rfl) hYB hch8
          have HBLK4 := Lib.hid ((hch8.block bb (Array.getElem?_eq_some_iff.1 hba).1 (blk_ne hba hYa (by decide))).trans hba)
          have hlt3 : ∀ k, k < n → bx k < W3.heap.size ∧ gx k < W3.heap.size ∧ rx k < W3.heap.size := fun k hk => by
            have := (HH3.out.core.duo k hk).lt
            exact ⟨this.1, this.2.1, this.2.2.1⟩
          have hz53 := HSZ5.out
          have hduo8 : Duo w.heap.size w w8 b5 g5 r7 (D j) := ⟨⟨cap5, hid8⟩, ⟨g7, c7, hir8⟩, Nat.le_trans HH3.out.core.below.size HBG5.out.1, Nat.le_trans HH3.out.core.below.size HBG5.out.2⟩
          have hcs := hco8.snoc (wo := W3) hlt3 hduo8 ⟨HBG5.out.1, HBG5.out.2, by omega⟩ (HH3.out.core.fine j hj)
          obtain ⟨Y8, c8, _, hye8, _, _, _, _⟩ := hpy.form (by omega)
          subst hye8
          have HH9 : Hid (Herd w.heap.size w w8 (n + 1) i (fun k => if k = n then b5 else bx k) (fun k => if k = n then g5 else gx k) (fun k => if k = n then r7 else rx k) (fun k => if k = n then D j else D k) (.slice (some ⟨X6, 0, none⟩) (n + 1) c6) (.slice (some ⟨Y8, 0, none⟩) (n + 1) c8)) := ⟨hcs, hxs8, hpy⟩
          clear ho8 hg8 hal hch8 hXa hYa hba hpy hco8 hxs8 hid8 hir8 hlt3 hduo8 hcs hz53 HCO7 HXS7 HROW7 HYNEW HID7 HR7 HXH7 HYH7 HBLK7 HH3 HBG5 HSZ5 HXH3 HYH3 HBLK3 HPL HXH HYH
          have hj' : j < n + 1 := by omega
          have j3 : (j : Int) < ((n + 1 : Nat) : Int) := by omega
          clear hj j2
          have hj := hj'
          have j2 := j3
          obtain ⟨N1, hN1⟩ : ∃ N1, N1 = n + 1 := ⟨_, rfl⟩
          have hN1le : N1 ≤ i + 2 := by omega
          rw [← hN1] at HH9 hj j2 ⊢
          obtain ⟨bx9, hbx9⟩ : ∃ f : Nat → Nat, f = (fun k => if k = n then b5 else bx k) := ⟨_, rfl⟩
          obtain ⟨gx9, hgx9⟩ : ∃ f : Nat → Nat, f = (fun k => if k = n then g5 else gx k) := ⟨_, rfl⟩
          obtain ⟨rx9, hrx9⟩ : ∃ f : Nat → Nat, f = (fun k => if k = n then r7 else rx k) := ⟨_, rfl⟩
          obtain ⟨D9, hD9⟩ : ∃ f : Nat → Dk, f = (fun k => if k = n then D j else D k) := ⟨_, rfl⟩
          rw [← hbx9, ← hgx9, ← hrx9, ← hD9] at HH9
          clear hbx9 hgx9 hrx9 hD9 hN1 hj' j3
          obtain ⟨w4, hw4⟩ : ∃ w4, w4 = w8 := ⟨_, rfl⟩
          rw [← hw4] at HH9 HBLK4 ⊢
          clear hw4
          have hcx := HH9.out.xs.cellAt hj
          have hcy := HH9.out.ys.cellAt hj
          have CX : ∀ t : Grow w4, t.val.cell? ⟨X6, j, none⟩ = some (.pointer (some ⟨bx9 j, 0, none⟩)) := fun t => t.cell hcx
          have CY : ∀ t : Grow w4, t.val.cell? ⟨Y8, j, none⟩ = some (.pointer (some ⟨rx9 j, 0, none⟩)) := fun t => t.cell hcy
          have C0 : ∀ t : Grow w4, t.val.cell? ⟨bb, 0, none⟩ = some (.int .i64 o.on) := fun t => t.cell (cell_of_row w4 bb 0 _ _ _ HBLK4.out)
          have C1 : ∀ t : Grow w4, t.val.cell? ⟨bb, 1, none⟩ = some (.int .i64 o.kind) := fun t => t.cell (cell_of_row w4 bb 1 _ _ _ HBLK4.out)
          have C2 : ∀ t : Grow w4, t.val.cell? ⟨bb, 2, none⟩ = some (.int .i64 o.f) := fun t => t.cell (cell_of_row w4 bb 2 _ _ _ HBLK4.out)
          have C3 : ∀ t : Grow w4, t.val.cell? ⟨bb, 3, none⟩ = some (.int .i64 o.n) := fun t => t.cell (cell_of_row w4 bb 3 _ _ _ HBLK4.out)
          have C4 : ∀ t : Grow w4, t.val.cell? ⟨bb, 4, none⟩ = some (.string o.s) := fun t => t.cell (cell_of_row w4 bb 4 _ _ _ HBLK4.out)
          have C5 : ∀ t : Grow w4, t.val.cell? ⟨bb, 5, none⟩ = some (.slice qp qn qc) := fun t => t.cell (cell_of_row w4 bb 5 _ _ _ HBLK4.out)
          clear hcx hcy
          go_wp2_with fail
          refine wp_region_fam_tail 9 (by kernel_rfl) (by kernel_rfl) Grow.val (Grow.start w4) ?_
          simp only [List.take_succ_cons, List.take_zero, List.drop_succ_cons, List.drop_zero]
          repeat go_big_quiet_step (fail)
          refine wpQuiet_nil ?_
          intro t
          have HT := Lib.hid (HH9.out.grow t.below)
          have HTB := Lib.hid t.below
          obtain ⟨w5, hw5⟩ : ∃ w5, w5 = t.val := ⟨_, rfl⟩
          rw [← hw5] at HT HTB ⊢
          clear CX CY C0 C1 C2 C3 C4 C5 hw5 t
          have hfine := HT.out.core.fine j hj
          have hbel5 := HT.out.core.below
          have HPL := Lib.hid (playsW (HT.out.core.duo j hj) hfine.ok o (.slice qp qn qc) HQV.out (by rw [← HT.out.core.le]; exact hbel5) HS1.out HC1.out HC2.out HN1.out (fun f hf => by have := hfine.many f hf; omega))
          have HFP := Lib.hid (hfine.play (by omega) o HC2.out HN1.out)
          clear hfine hbel5
          go_wp2_with fail
          refine HPL.out.mono ?_
          rintro e w6 ⟨rfl, hd6, hc6⟩
          have HH6 := Lib.hid (HT.out.turn hj hd6 hc6 HFP.out)
          clear hd6 hc6 HPL HT
          have DX : ∀ t : Grow w6, t.val.cell? ⟨X6, j, none⟩ = some (.pointer (some ⟨bx9 j, 0, none⟩)) := fun t => t.cell (HH6.out.xs.cellAt hj)
          have DY : ∀ t : Grow w6, t.val.cell? ⟨Y8, j, none⟩ = some (.pointer (some ⟨rx9 j, 0, none⟩)) := fun t => t.cell (HH6.out.ys.cellAt hj)
          go_wp2_with fail
          refine wp_region_fam_tail 8 (by kernel_rfl) (by kernel_rfl) Grow.val (Grow.start w6) ?_
          simp only [List.take_succ_cons, List.take_zero, List.drop_succ_cons, List.drop_zero]
          repeat go_big_quiet_step (fail)
          refine wpQuiet_nil ?_
          intro t
          have HT7 := Lib.hid (HH6.out.grow t.below)
          obtain ⟨w7, hw7⟩ : ∃ w7, w7 = t.val := ⟨_, rfl⟩
          rw [← hw7] at HT7 ⊢
          clear DX DY hw7 t HH6
          have HTL := Lib.hid (tellsW (HT7.out.core.duo j hj) (HT7.out.core.fine j hj).ok)
          go_wp2_with fail
          refine HTL.out.mono ?_
          rintro e w8 ⟨rfl, hb8⟩
          have HH8 := Lib.hid (HT7.out.grow hb8)
          clear hb8 HTL HT7
          go_wp2_with fail
          exact ⟨⟨i + 1, N1, bx9, gx9, rx9, _, by omega, by omega, rfl, HH8.out⟩, by simp [intOf]; omega⟩
        · have hk8 : (o.kind == 8) = false := by rw [beq_eq_false_iff_ne]; exact hk
          clear hk
          go_wp2_with fail
          rw [← HW3.out, ← HBB.out]
          refine HPL.out.mono ?_
          rintro e w3 ⟨rfl, rfl⟩
          have k1 := cell_of_row W3 bb 1 _ _ _ HBLK3.out
          go_wp2_with fail
          obtain ⟨w4, hw4⟩ : ∃ w4, w4 = W3 := ⟨_, rfl⟩
          rw [← hw4] at HH3 HBLK3 ⊢
          have HBLK4 := HBLK3
          have hcx := HH3.out.xs.cellAt hj
          have hcy := HH3.out.ys.cellAt hj
          clear k1 hw4 HBLK3 HXH3 HYH3 HXH HYH HPL
          have CX : ∀ t : Grow w4, t.val.cell? ⟨X, j, none⟩ = some (.pointer (some ⟨bx j, 0, none⟩)) := fun t => t.cell hcx
          have CY : ∀ t : Grow w4, t.val.cell? ⟨Y, j, none⟩ = some (.pointer (some ⟨rx j, 0, none⟩)) := fun t => t.cell hcy
          have C0 : ∀ t : Grow w4, t.val.cell? ⟨bb, 0, none⟩ = some (.int .i64 o.on) := fun t => t.cell (cell_of_row w4 bb 0 _ _ _ HBLK4.out)
          have C1 : ∀ t : Grow w4, t.val.cell? ⟨bb, 1, none⟩ = some (.int .i64 o.kind) := fun t => t.cell (cell_of_row w4 bb 1 _ _ _ HBLK4.out)
          have C2 : ∀ t : Grow w4, t.val.cell? ⟨bb, 2, none⟩ = some (.int .i64 o.f) := fun t => t.cell (cell_of_row w4 bb 2 _ _ _ HBLK4.out)
          have C3 : ∀ t : Grow w4, t.val.cell? ⟨bb, 3, none⟩ = some (.int .i64 o.n) := fun t => t.cell (cell_of_row w4 bb 3 _ _ _ HBLK4.out)
          have C4 : ∀ t : Grow w4, t.val.cell? ⟨bb, 4, none⟩ = some (.string o.s) := fun t => t.cell (cell_of_row w4 bb 4 _ _ _ HBLK4.out)
          have C5 : ∀ t : Grow w4, t.val.cell? ⟨bb, 5, none⟩ = some (.slice qp qn qc) := fun t => t.cell (cell_of_row w4 bb 5 _ _ _ HBLK4.out)
          clear hcx hcy
          go_wp2_with fail
          refine wp_region_fam_tail 9 (by kernel_rfl) (by kernel_rfl) Grow.val (Grow.start w4) ?_
          simp only [List.take_succ_cons, List.take_zero, List.drop_succ_cons, List.drop_zero]
          repeat go_big_quiet_step (fail)
          refine wpQuiet_nil ?_
          intro t
          have HT := Lib.hid (HH3.out.grow t.below)
          have HTB := Lib.hid t.below
          obtain ⟨w5, hw5⟩ : ∃ w5, w5 = t.val := ⟨_, rfl⟩
          rw [← hw5] at HT HTB ⊢
          clear CX CY C0 C1 C2 C3 C4 C5 hw5 t
          have hfine := HT.out.core.fine j hj
          have hbel5 := HT.out.core.below
          have HPL := Lib.hid (playsW (HT.out.core.duo j hj) hfine.ok o (.slice qp qn qc) HQV.out (by rw [← HT.out.core.le]; exact hbel5) HS1.out HC1.out HC2.out HN1.out (fun f hf => by have := hfine.many f hf; omega))
          have HFP := Lib.hid (hfine.play (by omega) o HC2.out HN1.out)
          clear hfine hbel5
          go_wp2_with fail
          refine HPL.out.mono ?_
          rintro e w6 ⟨rfl, hd6, hc6⟩
          have HH6 := Lib.hid (HT.out.turn hj hd6 hc6 HFP.out)
          clear hd6 hc6 HPL HT
          have DX : ∀ t : Grow w6, t.val.cell? ⟨X, j, none⟩ = some (.pointer (some ⟨bx j, 0, none⟩)) := fun t => t.cell (HH6.out.xs.cellAt hj)
          have DY : ∀ t : Grow w6, t.val.cell? ⟨Y, j, none⟩ = some (.pointer (some ⟨rx j, 0, none⟩)) := fun t => t.cell (HH6.out.ys.cellAt hj)
          go_wp2_with fail
          refine wp_region_fam_tail 8 (by kernel_rfl) (by kernel_rfl) Grow.val (Grow.start w6) ?_
          simp only [List.take_succ_cons, List.take_zero, List.drop_succ_cons, List.drop_zero]
          repeat go_big_quiet_step (fail)
          refine wpQuiet_nil ?_
          intro t
          have HT7 := Lib.hid (HH6.out.grow t.below)
          obtain ⟨w7, hw7⟩ : ∃ w7, w7 = t.val := ⟨_, rfl⟩
          rw [← hw7] at HT7 ⊢
          clear DX DY hw7 t HH6
          have HTL := Lib.hid (tellsW (HT7.out.core.duo j hj) (HT7.out.core.fine j hj).ok)
          go_wp2_with fail
          refine HTL.out.mono ?_
          rintro e w8 ⟨rfl, hb8⟩
          have HH8 := Lib.hid (HT7.out.grow hb8)
          clear hb8 HTL HT7
          go_wp2_with fail
          exact ⟨⟨i + 1, n, bx, gx, rx, _, by omega, by omega, rfl, HH8.out⟩, by simp [intOf]; omega⟩
      · go_wp2_with fail
        have HHE := HH
        clear HXH HYH
        go_loopw [17] (fun vi wr => ∃ k : Nat, k ≤ n ∧ vi = .int .i64 (k : Nat) ∧ Herd w.heap.size w wr n i bx gx rx D (.slice (some ⟨X, 0, none⟩) n cx) (.slice (some ⟨Y, 0, none⟩) n cy)) (fun vi _ => (n - intOf vi).toNat)
        case atStart => exact ⟨0, by omega, rfl, HHE.out⟩
        case round =>
          obtain ⟨k, hk, rfl, hq⟩ := hrel
          have HQ := Lib.hid hq
          clear hq
          by_cases hkl : k < n
          · have DX : ∀ t : Grow wr, t.val.cell? ⟨X, k, none⟩ = some (.pointer (some ⟨bx k, 0, none⟩)) := fun t => t.cell (HQ.out.xs.cellAt hkl)
            have DY : ∀ t : Grow wr, t.val.cell? ⟨Y, k, none⟩ = some (.pointer (some ⟨rx k, 0, none⟩)) := fun t => t.cell (HQ.out.ys.cellAt hkl)
            have j1 : (0 : Int) ≤ (k : Int) := by omega
            have j2 : (k : Int) < (n : Int) := by omega
            go_wp2_with fail
            refine wp_region_fam_tail 8 (by kernel_rfl) (by kernel_rfl) Grow.val (Grow.start wr) ?_
            simp only [List.take_succ_cons, List.take_zero, List.drop_succ_cons, List.drop_zero]
            repeat go_big_quiet_step (fail)
            refine wpQuiet_nil ?_
            intro t
            have HT7 := Lib.hid (HQ.out.grow t.below)
            obtain ⟨w7, hw7⟩ : ∃ w7, w7 = t.val := ⟨_, rfl⟩
            rw [← hw7] at HT7 ⊢
            clear DX DY hw7 t HQ
            have HTL := Lib.hid (tellsW (HT7.out.core.duo k hkl) (HT7.out.core.fine k hkl).ok)
            go_wp2_with fail
            refine HTL.out.mono ?_
            rintro e w8 ⟨rfl, hb8⟩
            have HH8 := Lib.hid (HT7.out.grow hb8)
            clear hb8 HTL HT7
            go_wp2_with fail
            exact ⟨⟨k + 1, by omega, rfl, HH8.out⟩, by simp [intOf]; omega⟩
          · go_wp2_with fail
            refine (fixedW wr).mono ?_
            rintro e w3 ⟨rfl, hb3⟩
            have HB3 := Lib.hid (HQ.out.core.below.trans (hb3.mono HQ.out.core.below.size))
            clear hb3
            go_wp2_with fail
            go_ret
            exact ⟨rfl, HB3.out⟩
end Go.Proofs.Ytennhmnmoamleaa
