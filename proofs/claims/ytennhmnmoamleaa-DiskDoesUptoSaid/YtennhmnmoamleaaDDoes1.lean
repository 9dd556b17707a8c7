/- The document's Copy; a disk of the program's beside the document's. -/
import Derived.Test.YtennhmnmoamleaaDRef11
import Derived.Test.YtennhmnmoamleaaDFixedW
namespace Go.Proofs.Ytennhmnmoamleaa
set_option linter.unusedVariables false
open Go.RowKit
section
variable {B : Nat} {w0 w w' : World} {b g cap : Nat} {D : Dk}
set_option maxRecDepth 100000 in
set_option maxHeartbeats 800000 in
theorem rcopyW (h : IsR B w0 w b g cap D) (hn : D.l.length ≤ 32) (hp : 0 < D.l.length) :
    Calls Try.prog 9 #[.pointer (some ⟨b, 0, none⟩)] w fun e w' => ∃ b' g' cap', e = .returned (.pointer (some ⟨b', 0, none⟩)) ∧ IsR B w0 w' b' g' cap' D ∧ w.heap.size ≤ b' ∧ Below w.heap.size w w' := by
  obtain ⟨⟨v0, c0, hrf⟩, c1, ⟨cv, c2, hcv⟩, c3⟩ := h.cells
  have hfm := hrf.form
  subst hfm
  obtain ⟨q, qc, rfl, _⟩ := id hcv
  have hbl := h.lt
  have hbB := h.bB
  have hbel := h.below
  have hle := h.le
  have h2 := hrf.len
  have h3 := hrf.capm
  unfold maxLen at h3
  obtain ⟨n, hnn⟩ : ∃ n, n = D.l.length := ⟨_, rfl⟩
  obtain ⟨m, hm⟩ : ∃ n, n = D.ch.length := ⟨_, rfl⟩
  rw [← hm] at c2 hcv
  have HCV := Lib.hid hcv
  rw [← hnn] at c0 hn h2 hp
  obtain ⟨W1, hW1⟩ : ∃ W, W = w.alloc (.cells #[.slice (some ⟨g, 0, none⟩) n cap, .int .i64 (D.armed : Nat), .slice q m qc, .bool D.dead] 50) := ⟨_, rfl⟩
  obtain ⟨W2, hW2⟩ : ∃ W, W = W1.alloc (.cells #[] 52) := ⟨_, rfl⟩
  have hz1 : W1.heap.size = w.heap.size + 1 := by rw [hW1]; simp
  have hb1 : Below w.heap.size w W1 := by rw [hW1]; exact (Below.refl _ _).alloc (Nat.le_refl _) _
  have hb2 : Below W1.heap.size W1 W2 := by rw [hW2]; exact (Below.refl _ _).alloc (Nat.le_refl _) _
  have hb12 : Below w.heap.size w W2 := hb1.trans (hb2.mono (by omega))
  have c00 : W2.cell? ⟨b, 0, none⟩ = some (.slice (some ⟨g, 0, none⟩) n cap) := (hb12.cell (p := ⟨b, 0, none⟩) hbl).trans c0
  have hblk1 : W1.heap[w.heap.size]? = some (.cells #[.slice (some ⟨g, 0, none⟩) n cap, .int .i64 (D.armed : Nat), .slice q m qc, .bool D.dead] 50 (0, 0)) := by rw [hW1]; exact heap_alloc_new w _
  have hown : W2.ownsRow W1.heap.size 52 2 (.slice (some ⟨W1.heap.size, 0, none⟩) 0 0) 0 [] := by rw [hW2]; exact OwnsRF.empty W1
  have hrf2 := hrf.keep (Chg.of_below (fun _ => False) hb12) (muts_none _)
  have hone := rcells_one hrf2
  have hlen : (filCells W2 g D.l.length).length = n * 2 := by unfold filCells; rw [List.length_map, List.length_range, hnn]
  have HSRC : Hid (∀ j u, (filCells W2 g D.l.length)[j]? = some u → W2.cell? ((⟨g, 0, none⟩ : Addr).add j) = some u) := fun j u hu => by
    have hj : j < D.l.length * 2 := by have := (List.getElem?_eq_some_iff.1 hu).1; omega
    rw [rcells_get hrf2 j hj] at hu
    rw [show (⟨g, 0, none⟩ : Addr).add j = ⟨g, j, none⟩ by unfold Addr.add; split <;> simp_all]
    exact hu
  obtain ⟨i0, hi0, hy0, hy1, hy2⟩ := info_parts infoRFile
  have MK : Hid (∀ (v5 : Value) (w5 : World), w5.ownsRow W1.heap.size 52 2 v5 n (filCells W2 g D.l.length) → W2.grownBy w5 (some W1.heap.size) →
      ∃ g' cap', v5 = .slice (some ⟨g', 0, none⟩) n cap' ∧ w5.cell? ⟨w.heap.size, 0, none⟩ = some (.slice (some ⟨g, 0, none⟩) n cap) ∧ w5.frozen? ⟨w.heap.size, 0, none⟩ = false ∧
        Hid (IsR B w0 (w5.setCell ⟨w.heap.size, 0, none⟩ v5) w.heap.size g' cap' D ∧ Below w.heap.size w (w5.setCell ⟨w.heap.size, 0, none⟩ v5))) := fun v5 w5 ho5 hg5 => by
    have hb5 : Below W1.heap.size W1 w5 := hb2.grown hg5 (by have := hb2.size; omega) (fun k hk => by injection hk with hk; omega)
    have hb52 : Below w.heap.size w w5 := hb1.trans (hb5.mono (by omega))
    have hrf1 := hrf.keep (Chg.of_below (fun _ => False) hb1) (muts_none _)
    have hcells : filCells W2 g D.l.length = filCells W1 g D.l.length := by
      unfold filCells
      refine List.map_congr_left fun j hj => ?_
      rw [hb2.cell (p := ⟨g, j, none⟩) hrf1.lt]
    rw [hcells, hnn] at ho5
    obtain ⟨g', cap', hv, hge, hfs⟩ := hrf1.of_own hb5 ho5 (by omega)
    have hblk5 : w5.heap[w.heap.size]? = some (.cells #[.slice (some ⟨g, 0, none⟩) n cap, .int .i64 (D.armed : Nat), .slice q m qc, .bool D.dead] 50 (0, 0)) := (hb5.block _ (by omega)).trans hblk1
    have hc : Chg (fun k => k = w.heap.size) w5 (w5.setCell ⟨w.heap.size, 0, none⟩ v5) := Chg.setCell (fun k => k = w.heap.size) w5 rfl _
    have hbF : Below w.heap.size w (w5.setCell ⟨w.heap.size, 0, none⟩ v5) := hb52.setCell (p := ⟨w.heap.size, 0, none⟩) (Nat.le_refl _) v5
    refine ⟨g', cap', by rw [hv, hnn], cell_of_row w5 w.heap.size 0 _ _ _ hblk5, frozen_of_row w5 w.heap.size 0 _ _ hblk5, ⟨⟨v5, .slice q m qc, ?_, hfs.keep hc (rblk_muts hblk5), hcv⟩, by omega, hbel.trans (hbF.mono (by omega)), hle⟩, hbF⟩
    exact setCell_blk w5 w.heap.size 0 v5 hblk5
  have HLEN := Lib.hid hlen
  have HONE := Lib.hid hone
  have HOWN := Lib.hid hown
  have HW1 := Lib.hid hW1
  have HW2 := Lib.hid hW2
  have HZ1 := Lib.hid hz1
  have c0' : ((w.alloc (.cells #[.slice (some ⟨g, 0, none⟩) n cap, .int .i64 (D.armed : Nat), .slice q m qc, .bool D.dead] 50)).alloc (.cells #[] 52)).cell? ⟨b, 0, none⟩ = some (.slice (some ⟨g, 0, none⟩) n cap) := by rw [← hW1, ← hW2]; exact c00
  have hsz2 := hb2.size
  clear h hrf hrf2 hcv hnn hm hlen hone hown hW1 hW2 c00 hb1 hb2 hb12 hz1 hblk1 hbel hle
  go_enter Try.func9, Try.ntmps9
  go_wp2_with (at_builtin; rw [← HW1.out, ← HW2.out]; refine wpList_append_own_at _ rfl _ _ 48 rfl W1.heap.size 52 i0 (.agg #[.string ⟨#[]⟩, .slice none 0 0]) 2 40 Try.underlying48 hi0 hy0 hy1 hy2 rfl (by decide) (.slice (some ⟨W1.heap.size, 0, none⟩) 0 0) 0 [] ?d0 HOWN.out ⟨g, 0, none⟩ n cap (filCells W2 g D.l.length) rfl HLEN.out HSRC.out HONE.out (by unfold maxLen; omega) (by omega) ?d1 ?_)
  case d0 => rw [HZ1.out]; rfl
  case d1 => exact hsz2
  intro v5 w5 ho5 hg5 _ _
  obtain ⟨g', cap', rfl, q1, q2, R⟩ := MK.out v5 w5 ho5 hg5
  clear ho5 hg5 MK c0'
  go_wp2_with fail
  go_ret
  exact ⟨_, g', cap', rfl, R.out.1, Nat.le_refl _, R.out.2⟩
/-- They lie apart: their blocks are of other types. -/
theorem IsDisk.apart {b' g' cap' : Nat} {D' : Dk} (h : IsDisk w b g cap D) (k : IsR B w0 w b' g' cap' D') : b' ≠ b ∧ b' ≠ g := by
  obtain ⟨cv, h1, _⟩ := h.blk
  obtain ⟨cur, h2, _⟩ := h.fs.blk
  obtain ⟨v, cv', h3, _, _⟩ := k.blk
  refine ⟨fun e => ?_, fun e => ?_⟩
  · subst e
    rw [h1] at h3
    injection h3 with h3
    injection h3 with _ hT _
    exact absurd hT (by decide)
  · subst e
    rw [h2] at h3
    injection h3 with h3
    injection h3 with _ hT _
    exact absurd hT (by decide)
/-- The program's disk and the document's, in one state. -/
structure Duo (B : Nat) (w0 w : World) (b g r : Nat) (D : Dk) : Prop where
  p : ∃ cap, IsDisk w b g cap D
  q : ∃ g' cap', IsR B w0 w r g' cap' D
  bB : B ≤ b
  gB : B ≤ g
theorem Duo.apart {r : Nat} (h : Duo B w0 w b g r D) : r ≠ b ∧ r ≠ g ∧ b ≠ g := by
  obtain ⟨cap, h1⟩ := h.p
  obtain ⟨g', cap', h2⟩ := h.q
  exact ⟨(h1.apart h2).1, (h1.apart h2).2, h1.ne⟩
theorem Duo.lt {r : Nat} (h : Duo B w0 w b g r D) : b < w.heap.size ∧ g < w.heap.size ∧ r < w.heap.size ∧ B ≤ r := by
  obtain ⟨cap, h1⟩ := h.p
  obtain ⟨g', cap', h2⟩ := h.q
  exact ⟨h1.lt, h1.fs.lt, h2.lt, h2.bB⟩
/-- What a call on a duo may turn. -/
def Of (b g r : Nat) (k : Nat) : Prop := k = b ∨ k = g ∨ k = r
theorem Duo.muts {r : Nat} (h : Duo B w0 w b g r D) : Muts (Of b g r) w := by
  intro k hk hS cur T fr hh
  obtain ⟨cap, h1⟩ := h.p
  obtain ⟨g', cap', h2⟩ := h.q
  rcases hS with rfl | rfl | rfl
  · exact h1.muts k hk (.inl rfl) cur T fr hh
  · exact h1.muts k hk (.inr rfl) cur T fr hh
  · exact h2.muts k hk rfl cur T fr hh
/-- A duo that a change leaves alone. -/
theorem Duo.keep {r : Nat} {S : Nat → Prop} (h : Duo B w0 w b g r D) (hc : Chg S w w') (hb : ¬ S b) (hg : ¬ S g) (hr : ¬ S r) (hB : ∀ k, k < B → ¬ S k) (hm : Muts S w) : Duo B w0 w' b g r D := by
  obtain ⟨cap, h1⟩ := h.p
  obtain ⟨g', cap', h2⟩ := h.q
  exact ⟨⟨cap, h1.keep hc hb hg hm⟩, ⟨g', cap', h2.keep hc hr hB hm⟩, h.bB, h.gB⟩
theorem Duo.grow {r : Nat} (h : Duo B w0 w b g r D) (hb : Below w.heap.size w w') : Duo B w0 w' b g r D := h.keep (Chg.of_below (fun _ => False) hb) id id id (fun _ _ => id) (muts_none w)
/-- Behind the program's call. -/
theorem Duo.left {r : Nat} {D' : Dk} (h : Duo B w0 w b g r D) {cap' : Nat} (hd : IsDisk w' b g cap' D') (hc : Chg (fun k => k = b ∨ k = g) w w') : ∃ g' cap', IsR B w0 w' r g' cap' D := by
  obtain ⟨cap, h1⟩ := h.p
  obtain ⟨g', cap', h2⟩ := h.q
  have ha := h1.apart h2
  exact ⟨g', cap', h2.keep hc (by rintro (e | e); exact ha.1 e; exact ha.2 e) (fun k hk hS => by have := h.bB; have := h.gB; rcases hS with e | e <;> omega) h1.muts⟩
/-- Behind the document's call. -/
theorem Duo.right {r cap g' cap' g'' cap'' : Nat} {D D' D'' : Dk} (hd : IsDisk w b g cap D') (k : IsR B w0 w r g' cap' D) (hk : IsR B w0 w' r g'' cap'' D'') (hc : Chg (fun k => k = r) w w') : IsDisk w' b g cap D' := by
  have ha := hd.apart k
  exact hd.keep hc (fun e => ha.1 e.symm) (fun e => ha.2 e.symm) k.muts
end
end Go.Proofs.Ytennhmnmoamleaa
