/- The document's disk: set, die. -/
import Derived.Test.YtilpbjcbffbjeaaGreatDoorDRef6
namespace Go.Proofs.YtilpbjcbffbjeaaGreatDoor
set_option linter.unusedVariables false
set_option maxRecDepth 100000
open Go.RowKit
section
variable {w w' : World} {b g cap B : Nat} {w0 : World} {D : Dk} {v : Value} {l : List Fl}
theorem IsR.setL (h : IsR B w0 w b g cap D) {v : Value} {l' : List Fl} {g' cap' : Nat} (hr : RFs w v l' g' cap') : IsR B w0 (w.setCell ⟨b, 0, none⟩ v) b g' cap' ⟨l', D.armed, D.ch, D.dead⟩ := by
  have hlt := h.lt
  obtain ⟨v0, cv, h1, h2, h3⟩ := h.blk
  have hc : Chg (fun k => k = b) w (w.setCell ⟨b, 0, none⟩ v) := Chg.setCell (fun k => k = b) w rfl _
  exact ⟨⟨v, cv, setCell_blk w b 0 _ h1, hr.keep hc (rblk_muts h1), h3⟩, h.bB, h.below.trans (hc.below (by have := h.bB; omega) (fun k hk e => by have := h.bB; omega)), h.le⟩
theorem RFs.there (h : RFs w v l g cap) {j : Nat} (hj : j < l.length * 2) : (w.cell? ⟨g, j, none⟩).isSome = true := by
  obtain ⟨cur, hg, hs⟩ := h.blk
  have := h.len
  rw [cell_of_row w g j cur _ _ hg, Array.getElem?_eq_getElem (by omega)]
  rfl
theorem RFs.free (h : RFs w v l g cap) (j : Nat) : w.frozen? ⟨g, j, none⟩ = false := by obtain ⟨cur, hg, _⟩ := h.blk; exact frozen_of_row w g j cur _ hg
theorem rcells_get (h : RFs w v l g cap) (j : Nat) (hj : j < l.length * 2) : (filCells w g l.length)[j]? = w.cell? ⟨g, j, none⟩ := by
  unfold filCells
  obtain ⟨v, hv⟩ := Option.isSome_iff_exists.1 (h.there hj)
  rw [List.getElem?_map, List.getElem?_range hj, Option.map_some]
  simp only [hv, Option.getD_some]
theorem rcells_one (h : RFs w v l g cap) : ∀ u ∈ filCells w g l.length, u.oneCell' = true := by
  intro u hu
  obtain ⟨j, hj, rfl⟩ := List.mem_map.1 hu
  have hj := List.mem_range.1 hj
  rcases Nat.mod_two_eq_zero_or_one j with h0 | h0
  · have := h.safe (j / 2) (by omega)
    rw [show j / 2 * 2 = j by omega] at this
    rw [this]; rfl
  · obtain ⟨v, hv, hw⟩ := h.ws (j / 2) (by omega)
    rw [show j / 2 * 2 + 1 = j by omega] at hv
    rw [hv]
    obtain ⟨p, c, rfl, _⟩ := hw.form
    rfl
theorem RFs.of_own {base : Nat} {u : Value} (h : RFs w v l g cap) (hb : Below w.heap.size w w') (ho : w'.ownsRow base 129 2 u l.length (filCells w g l.length)) (h0 : 0 < l.length) :
    ∃ g' cap', u = .slice (some ⟨g', 0, none⟩) l.length cap' ∧ base ≤ g' ∧ RFs w' u l g' cap' := by
  rcases ho.2 with ⟨_, hn⟩ | ⟨g', cap', cur, hv, hb', hg, h3, h4, h5, h6⟩
  · omega
  · subst hv
    have hc := fun j hj => World.ownsRow.cellAt (w := w') (base := base) (e := 129) (size := 2) (g := g') (cap := cap') (n := l.length) (xs := filCells w g l.length) ho j hj
    refine ⟨g', cap', rfl, hb', ⟨rfl, ⟨cur, hg, h5⟩, h4, h3, fun i hi => ?_, fun i hi => ?_⟩⟩
    · rw [hc _ (by omega), rcells_get h _ (by omega)]; exact h.safe i hi
    · obtain ⟨u, hu, hw⟩ := h.ws i hi
      exact ⟨u, by rw [hc _ (by omega), rcells_get h _ (by omega)]; exact hu, hw.below hb⟩
theorem RFs.setBoth (h : RFs w v l g cap) {f : Nat} (hf : f < l.length) {x : Fl} {u : Value} (hu : WS w u x.ws) :
    RFs ((w.setCell ⟨g, f * 2, none⟩ (.string x.safe)).setCell ⟨g, f * 2 + 1, none⟩ u) v (l.set f x) g cap := by
  obtain ⟨cur, hg, hs⟩ := h.blk
  have hc : Chg (fun k => k = g) w ((w.setCell ⟨g, f * 2, none⟩ (.string x.safe)).setCell ⟨g, f * 2 + 1, none⟩ u) := (Chg.setCell (fun k => k = g) w (j := f * 2) rfl _).trans (Chg.setCell (fun k => k = g) _ (j := f * 2 + 1) rfl _)
  have hm : ∀ k, k < w.heap.size → k = g → ∀ cur fr, w.heap[k]? ≠ some (.cells cur 9 fr) := fun k _ e cur' fr hh => by
    subst e
    rw [hg] at hh
    injection hh with hh
    injection hh with _ hT _
    exact absurd hT (by decide)
  obtain ⟨old, ho⟩ := Option.isSome_iff_exists.1 (h.there (j := f * 2 + 1) (by omega))
  have e1 : (w.setCell ⟨g, f * 2, none⟩ (.string x.safe)).cell? ⟨g, f * 2 + 1, none⟩ = some old := by
    rw [World.cell?_setCell_other _ _ _ _ (by intro e; injection e with _ e; omega)]; exact ho
  have hset1 : ((w.setCell ⟨g, f * 2, none⟩ (.string x.safe)).setCell ⟨g, f * 2 + 1, none⟩ u).cell? ⟨g, f * 2 + 1, none⟩ = some u := World.cell?_setCell_same _ _ _ e1
  have hset0 : ((w.setCell ⟨g, f * 2, none⟩ (.string x.safe)).setCell ⟨g, f * 2 + 1, none⟩ u).cell? ⟨g, f * 2, none⟩ = some (.string x.safe) := by
    rw [World.cell?_setCell_other _ _ _ _ (by intro e; injection e with _ e; omega)]
    exact World.cell?_setCell_same _ _ _ (h.safe f hf)
  have hoth : ∀ j, j ≠ f * 2 → j ≠ f * 2 + 1 → ((w.setCell ⟨g, f * 2, none⟩ (.string x.safe)).setCell ⟨g, f * 2 + 1, none⟩ u).cell? ⟨g, j, none⟩ = w.cell? ⟨g, j, none⟩ := fun j h1 h2 => by
    rw [World.cell?_setCell_other _ _ _ _ (by intro e; injection e with _ e; omega), World.cell?_setCell_other _ _ _ _ (by intro e; injection e with _ e; omega)]
  refine ⟨by rw [List.length_set]; exact h.form, ⟨_, setCell_blk _ g _ _ (setCell_blk w g _ _ hg), by rw [Array.size_setIfInBounds, Array.size_setIfInBounds]; exact hs⟩, h.capm, by rw [List.length_set]; exact h.len, fun i hi => ?_, fun i hi => ?_⟩
  · rw [List.length_set] at hi
    by_cases e : f = i
    · subst e; rw [getD_set_self _ _ _ _ hf]; exact hset0
    · rw [getD_set_ne _ _ _ _ _ e, hoth _ (by omega) (by omega)]; exact h.safe i hi
  · rw [List.length_set] at hi
    by_cases e : f = i
    · subst e; rw [getD_set_self _ _ _ _ hf]; exact ⟨u, hset1, Row1.keepT hu hc hm⟩
    · rw [getD_set_ne _ _ _ _ _ e, hoth _ (by omega) (by omega)]
      obtain ⟨y, hy, hw⟩ := h.ws i hi
      exact ⟨y, hy, Row1.keepT hw hc hm⟩
theorem OwnsRF.rfs {base : Nat} {ss : List ByteArray} (h : OwnsRF w base v ss) (h0 : 0 < ss.length) : ∃ g cap, v = .slice (some ⟨g, 0, none⟩) ss.length cap ∧ base ≤ g ∧ RFs w v (ss.map fun s => ⟨s, []⟩) g cap := by
  rcases h.2 with ⟨_, hn⟩ | ⟨g, cap, cur, hv, hb, hg, h3, h4, h5, h6⟩
  · omega
  · subst hv
    have hc := fun j hj => World.ownsRow.cellAt (w := w) (base := base) (e := 129) (size := 2) (g := g) (cap := cap) (n := ss.length) (xs := fcells ss) h j hj
    have hgd : ∀ i, i < ss.length → (ss.map fun s => (⟨s, []⟩ : Fl)).getD i Fl.zero = ⟨ss.getD i ⟨#[]⟩, []⟩ := fun i hi => by
      rw [List.getD_eq_getElem?_getD, List.getElem?_map, List.getElem?_eq_getElem hi, List.getD_eq_getElem?_getD, List.getElem?_eq_getElem hi]; rfl
    refine ⟨g, cap, rfl, hb, ⟨by rw [List.length_map], ⟨cur, hg, h5⟩, h4, by rw [List.length_map]; exact h3, fun i hi => ?_, fun i hi => ?_⟩⟩
    · rw [List.length_map] at hi
      rw [hgd i hi, hc (i * 2) (by omega)]
      exact (fcells_get ss i hi).1
    · rw [List.length_map] at hi
      rw [hgd i hi]
      exact ⟨.slice none 0 0, (hc (i * 2 + 1) (by omega)).trans (fcells_get ss i hi).2, WS.nil w⟩
theorem OwnsRF.empty (w : World) : OwnsRF (w.alloc (.cells #[] 129)) w.heap.size (.slice (some ⟨w.heap.size, 0, none⟩) 0 0) [] :=
  ⟨rfl, .inr ⟨w.heap.size, 0, #[], rfl, Nat.le_refl _, heap_alloc_new w _, Nat.le_refl _, by unfold maxLen; omega, rfl, rfl⟩⟩
theorem OwnsRF.alloc {base : Nat} {ss : List ByteArray} (h : OwnsRF w base v ss) (o : Obj) : OwnsRF (w.alloc o) base v ss := World.ownsRow.alloc h o
end
theorem wpList_append_rf {ops : Array Oper} {rest : List Oper} {o : Oper} {a : Act} {w : World} {Q : Exit → Act → World → Prop} {base : Nat} {v : Value} {ss : List ByteArray}
    (hgd : o.guard = none) (s x : Operand) (ho : o.op = .call { callee := .builtin .append, args := #[s, x], argTypes := #[74, 74] })
    (hs : a.eval s = v) (hown : OwnsRF w base v ss) (g c : Nat) (new : ByteArray) (hx : a.eval x = .slice (some ⟨g, 0, none⟩) 1 c)
    (hnew : w.cell? ⟨g, 0, none⟩ = some (.string new) ∧ w.cell? ⟨g, 1, none⟩ = some (.slice none 0 0)) (hsz : ss.length ≤ 1048576) (hbase : base ≤ w.heap.size)
    (h : ∀ v' w', OwnsRF w' base v' (ss ++ [new]) → w.grownBy w' v.ownBlock → wpList Tryz.prog ops Q rest (a.put o.dst v') w') : wpList Tryz.prog ops Q (o :: rest) a w := by
  obtain ⟨i0, hi0, hz0, hz1, hz2⟩ := info_parts infoRFile
  refine wpList_append_own_at w hgd s x 74 ho base 129 i0 (.agg #[.string ⟨#[]⟩, .slice none 0 0]) 2 40 Tryz.underlying74 hi0 hz0 hz1 hz2 rfl (by decide) v ss.length (fcells ss) hs hown ⟨g, 0, none⟩ 1 c [.string new, .slice none 0 0] hx rfl ?_ (by simp [Value.oneCell']) (by unfold maxLen; omega) (by omega) hbase ?_
  · intro j u hu
    have hj : j < 2 := (List.getElem?_eq_some_iff.1 hu).1
    match j, hj with
    | 0, _ => rw [show u = .string new by simpa using hu.symm]; exact hnew.1
    | 1, _ => rw [show u = .slice none 0 0 by simpa using hu.symm]; exact hnew.2
  · intro v' w' h1 h2 _ _
    refine h v' w' ?_ h2
    unfold OwnsRF
    rw [List.length_append, fcells_snoc]
    exact h1
set_option maxRecDepth 100000 in
set_option maxHeartbeats 800000 in
theorem rsetW {B : Nat} {w0 w : World} {b g cap : Nat} {D : Dk} (h : IsR B w0 w b g cap D) (hn : D.l.length ≤ 32) (f : Nat) (hf : f < D.l.length) (x : Fl) (u : Value) (hu : WS w u x.ws) :
    Calls Tryz.prog 130 #[.pointer (some ⟨b, 0, none⟩), .int .i64 (f : Nat), .agg #[.string x.safe, u]] w fun e w' => e = .returned (.tuple #[]) ∧ (∃ g' cap', IsR B w0 w' b g' cap' (D.setf f x)) ∧ Chg (fun k => k = b) w w' := by
  obtain ⟨v0, c00, hrf⟩ := h.cells.1
  have hfm := hrf.form
  subst hfm
  have hbl := h.lt
  obtain ⟨p, c, rfl, hpc⟩ := hu.form
  have h2 := hrf.len
  have h3 := hrf.capm
  unfold maxLen at h3
  obtain ⟨n, hnn⟩ : ∃ n, n = D.l.length := ⟨_, rfl⟩
  obtain ⟨m, hm⟩ : ∃ n, n = x.ws.length := ⟨_, rfl⟩
  obtain ⟨s, hs⟩ : ∃ s, s = x.safe := ⟨_, rfl⟩
  rw [← hm] at hu ⊢
  rw [← hnn] at c00 hn hf h2
  rw [← hs]
  obtain ⟨W1, hW1⟩ : ∃ W, W = w.alloc (.cells #[.string s, .slice p m c] 129) := ⟨_, rfl⟩
  obtain ⟨W2, hW2⟩ : ∃ W, W = W1.alloc (.cells #[] 129) := ⟨_, rfl⟩
  have hz1 : W1.heap.size = w.heap.size + 1 := by rw [hW1]; simp
  have hb1 : Below w.heap.size w W1 := by rw [hW1]; exact (Below.refl _ _).alloc (Nat.le_refl _) _
  have hb2 : Below W1.heap.size W1 W2 := by rw [hW2]; exact (Below.refl _ _).alloc (Nat.le_refl _) _
  have hb12 : Below w.heap.size w W2 := hb1.trans (hb2.mono (by omega))
  have c0 : W2.cell? ⟨b, 0, none⟩ = some (.slice (some ⟨g, 0, none⟩) n cap) := (hb12.cell (p := ⟨b, 0, none⟩) hbl).trans c00
  have d0 : W1.cell? ⟨w.heap.size, 0, none⟩ = some (.string s) := by rw [hW1]; simp
  have d1 : W1.cell? ⟨w.heap.size, 1, none⟩ = some (.slice p m c) := by rw [hW1]; simp
  have hown : W2.ownsRow W1.heap.size 129 2 (.slice (some ⟨W1.heap.size, 0, none⟩) 0 0) 0 [] := by rw [hW2]; exact OwnsRF.empty W1
  have hrf2 := hrf.keep (Chg.of_below (fun _ => False) hb12) (muts_none _)
  have hone := rcells_one hrf2
  have hlen : (filCells W2 g D.l.length).length = n * 2 := by unfold filCells; rw [List.length_map, List.length_range, hnn]
  have HSRC : Hid (∀ j u, (filCells W2 g D.l.length)[j]? = some u → W2.cell? ((⟨g, 0, none⟩ : Addr).add j) = some u) := fun j u hu => by
    have hj : j < D.l.length * 2 := by have := (List.getElem?_eq_some_iff.1 hu).1; omega
    rw [rcells_get hrf2 j hj] at hu
    rw [show (⟨g, 0, none⟩ : Addr).add j = ⟨g, j, none⟩ by unfold Addr.add; split <;> simp_all]
    exact hu
  obtain ⟨i0, hi0, hy0, hy1, hy2⟩ := info_parts infoRFile
  have MK : Hid (∀ (v5 : Value) (w5 : World), w5.ownsRow W1.heap.size 129 2 v5 n (filCells W2 g D.l.length) → W2.grownBy w5 (some W1.heap.size) →
      ∃ g' cap', v5 = .slice (some ⟨g', 0, none⟩) n cap' ∧ n ≤ cap' ∧ b ≠ g' ∧ w5.cell? ⟨w.heap.size, 0, none⟩ = some (.string s) ∧ w5.cell? ⟨w.heap.size, 1, none⟩ = some (.slice p m c) ∧ w5.cell? ⟨b, 0, none⟩ = some (.slice (some ⟨g, 0, none⟩) n cap) ∧ w5.frozen? ⟨b, 0, none⟩ = false ∧
        (∃ o, w5.cell? ⟨g', f * 2, none⟩ = some o) ∧ (∃ o, w5.cell? ⟨g', f * 2 + 1, none⟩ = some o) ∧ w5.frozen? ⟨g', f * 2, none⟩ = false ∧ w5.frozen? ⟨g', f * 2 + 1, none⟩ = false ∧
        Hid (RFs w5 v5 D.l g' cap' ∧ Below w.heap.size w w5 ∧ w.heap.size ≤ g')) := fun v5 w5 ho5 hg5 => by
    have hb5 : Below W1.heap.size W1 w5 := hb2.grown hg5 (by have := hb2.size; omega) (fun k hk => by injection hk with hk; omega)
    have hb52 : Below w.heap.size w w5 := hb1.trans (hb5.mono (by omega))
    have hrf1 := hrf.keep (Chg.of_below (fun _ => False) hb1) (muts_none _)
    have hcells : filCells W2 g D.l.length = filCells W1 g D.l.length := by
      unfold filCells
      refine List.map_congr_left fun j hj => ?_
      rw [hb2.cell (p := ⟨g, j, none⟩) hrf1.lt]
    rw [hcells, hnn] at ho5
    have hlp : 0 < D.l.length := by omega
    obtain ⟨g', cap', hv, hge, hfs⟩ := hrf1.of_own hb5 ho5 hlp
    have t0 := hfs.there (j := f * 2) (by omega)
    have t1 := hfs.there (j := f * 2 + 1) (by omega)
    obtain ⟨o0, t0⟩ := Option.isSome_iff_exists.1 t0
    obtain ⟨o1, t1⟩ := Option.isSome_iff_exists.1 t1
    have fb := h.free 0
    refine ⟨g', cap', by rw [hv, hnn], by rw [hnn]; exact hfs.len, by omega, (hb5.cell (p := ⟨w.heap.size, 0, none⟩) (by show w.heap.size < _; omega)).trans d0, (hb5.cell (p := ⟨w.heap.size, 1, none⟩) (by show w.heap.size < _; omega)).trans d1, (hb52.cell (p := ⟨b, 0, none⟩) hbl).trans c00, (hb52.frozen (p := ⟨b, 0, none⟩) hbl).trans fb, ⟨o0, t0⟩, ⟨o1, t1⟩, hfs.free _, hfs.free _, hfs, hb52, by omega⟩
  have H := Lib.hid h
  have HU := Lib.hid hu
  have HN := Lib.hid hnn
  have HS := Lib.hid hs
  have HM := Lib.hid hm
  have HLEN := Lib.hid hlen
  have HONE := Lib.hid hone
  have HOWN := Lib.hid hown
  have HW1 := Lib.hid hW1
  have HW2 := Lib.hid hW2
  have HZ1 := Lib.hid hz1
  have i1 : (0 : Int) ≤ (f : Int) := by omega
  have i2 : (f : Int) < (n : Int) := by omega
  have c0' : ((w.alloc (.cells #[.string s, .slice p m c] 129)).alloc (.cells #[] 129)).cell? ⟨b, 0, none⟩ = some (.slice (some ⟨g, 0, none⟩) n cap) := by rw [← hW1, ← hW2]; exact c0
  have hsz2 := hb2.size
  clear h hu hrf hrf2 hnn hs hm hlen hone hown hW1 hW2 d0 d1 c0 c00 hb1 hb2 hb12 hz1
  go_enter Tryz.func130, Tryz.ntmps130
  go_wp2_with (at_builtin; rw [← HW1.out, ← HW2.out]; refine wpList_append_own_at _ rfl _ _ 74 rfl W1.heap.size 129 i0 (.agg #[.string ⟨#[]⟩, .slice none 0 0]) 2 40 Tryz.underlying74 hi0 hy0 hy1 hy2 rfl (by decide) (.slice (some ⟨W1.heap.size, 0, none⟩) 0 0) 0 [] ?d0 HOWN.out ⟨g, 0, none⟩ n cap (filCells W2 g D.l.length) rfl HLEN.out HSRC.out HONE.out (by unfold maxLen; omega) (by omega) ?d1 ?_)
  case d0 => rw [HZ1.out]; rfl
  case d1 => exact hsz2
  intro v5 w5 ho5 hg5 _ _
  obtain ⟨g', cap', rfl, q1, q2, q3, q4, q5, q6, ⟨o0, q7⟩, ⟨o1, q8⟩, q9, q10, R⟩ := MK.out v5 w5 ho5 hg5
  clear ho5 hg5 MK c0'
  go_wp2_with fail
  go_end0
  obtain ⟨r1, r2, r3⟩ := R.out
  have r4 := r1.setBoth (f := f) (x := x) (u := .slice p m c) (by rw [← HN.out]; exact hf) (HU.out.below r2)
  rw [← HS.out] at r4
  have r5 : Below w.heap.size w ((w5.setCell ⟨g', f * 2, none⟩ (.string s)).setCell ⟨g', f * 2 + 1, none⟩ (.slice p m c)) := (r2.setCell (p := ⟨g', f * 2, none⟩) r3 _).setCell (p := ⟨g', f * 2 + 1, none⟩) r3 _
  exact ⟨rfl, ⟨g', cap', (H.out.grow r5).setL r4⟩, (Chg.of_below (fun k => k = b) r5).trans (Chg.setCell (fun k => k = b) _ (j := 0) rfl _)⟩
set_option maxRecDepth 100000 in
set_option maxHeartbeats 800000 in
theorem rdieW {B : Nat} {w0 w : World} {b g cap : Nat} {D : Dk} (h : IsR B w0 w b g cap D) (hok : DOk D) (cv : Value) (css : List (List Int)) (hcs : Rss w cv css) (hcl : ∀ i, (css.getD i []).length ≤ 140737488355328) :
    Calls Tryz.prog 129 #[.pointer (some ⟨b, 0, none⟩), cv] w fun e w' => e = .returned (.tuple #[]) ∧ (∃ g' cap', IsR B w0 w' b g' cap' (D.died css)) ∧ Chg (fun k => k = b) w w' := by
  have HA := Lib.hid (rafterW h hok cv css hcs hcl)
  have hn := hok.n
  have hpos := hok.pos
  have hbl := h.lt
  have H := Lib.hid h
  obtain ⟨cp, ccap, rfl, _⟩ := hcs
  clear h hok hcl
  go_enter Tryz.func129, Tryz.ntmps129
  go_wp2_with fail
  refine HA.out.mono ?_
  rintro e w1 ⟨v, rfl, ho, hb⟩
  obtain ⟨p, ac, hv, hacl, hcell⟩ := Row1.form ho.ws
  rw [List.length_map, length_after] at hv hacl hcell
  subst hv
  have hb1 : Below w1.heap.size w1 (w1.alloc (.cells #[] 129)) := (Below.refl _ _).alloc (Nat.le_refl _) _
  have HO := Lib.hid (OwnsRF.empty w1)
  have HB := Lib.hid hb
  have HB1 := Lib.hid hb1
  have HCELL := Lib.hid hcell
  clear ho hb hcell hb1 HA
  go_wp2_with fail
  obtain ⟨W1, hW1⟩ : ∃ W, W = w1.alloc (.cells #[] 129) := ⟨_, rfl⟩
  rw [← hW1]
  rw [← hW1] at HO HB1
  clear hW1
  go_loopw [5, 6] (fun vl vi wr => ∃ i : Nat, i ≤ D.l.length ∧ vi = .int .i64 (i : Nat) ∧ OwnsRF wr w1.heap.size vl ((D.after css).take i) ∧ Below w1.heap.size w1 wr) (fun _ vi _ => (D.l.length - intOf vi).toNat)
  case atStart => exact ⟨0, by omega, rfl, HO.out, HB1.out⟩
  case round =>
    obtain ⟨i, hi, rfl, ho, hbr⟩ := hrel
    have HO2 := Lib.hid ho
    have HBR := Lib.hid hbr
    by_cases hlt : i < D.l.length
    · obtain ⟨gA, hp, hx⟩ := HCELL.out i hlt
      subst hp
      have htk := take_after D css i hlt
      rw [← getD_after D css i hlt] at htk
      obtain ⟨x, hxx⟩ : ∃ x, x = (D.after css).getD i ⟨#[]⟩ := ⟨_, rfl⟩
      have hx2 : w1.cell? ⟨gA, i, none⟩ = some (.string x) := by
        refine hx.trans ?_
        rw [List.getElem?_map, List.getElem?_eq_getElem (by rw [length_after]; exact hlt), hxx, List.getD_eq_getElem?_getD, List.getElem?_eq_getElem (by rw [length_after]; exact hlt)]
        rfl
      have hx3 := (hbr.cell (block_lt_of_cell hx2)).trans hx2
      rw [← hxx] at htk
      have HTK := Lib.hid htk
      have htl : ((D.after css).take i).length ≤ 1048576 := by have := List.length_take_le i (D.after css); omega
      have hsz := hbr.size
      clear hx hxx htk hx2 ho hbr
      go_wp2_with (at_builtin; refine wpList_append_rf rfl _ _ rfl rfl (HO2.out.alloc _) wr.heap.size 1 x rfl ⟨by simp, by simp⟩ htl (by simp; omega) ?_)
      intro v5 w5 ho5 hg5
      rw [← HTK.out] at ho5
      have HO5 := Lib.hid ho5
      have HB5 := Lib.hid ((HBR.out.alloc hsz _).grown hg5 (by simp; omega) (fun k hk => (OwnsRF.block HO2.out hk).1))
      clear ho5 hg5 HO2 HBR hx3
      go_wp2_with fail
      exact ⟨⟨i + 1, by omega, rfl, HO5.out, HB5.out⟩, by simp [intOf]; omega⟩
    · have hie : i = D.l.length := by omega
      rw [List.take_of_length_le (by rw [length_after]; omega)] at ho
      obtain ⟨g', cap', hv, hge, hrf⟩ := ho.rfs (by rw [length_after]; exact hpos)
      subst hv
      rw [length_after] at hrf
      rw [length_after]
      have hb2 : Below w.heap.size w wr := HB.out.trans (hbr.mono HB.out.size)
      have hid := H.out.grow hb2
      obtain ⟨⟨v0, c00, _⟩, c1, _, c3⟩ := hid.cells
      have f0 := hid.free 0
      have f1 := hid.free 1
      have f3 := hid.free 3
      have HF := Lib.hid (((hid.setL hrf).setArmed 0).setDead true)
      have HCF := Lib.hid ((Chg.of_below (fun k => k = b) hb2).trans ((Chg.setCell (fun k => k = b) wr (j := 0) rfl (.slice (some ⟨g', 0, none⟩) D.l.length cap')).trans ((Chg.setCell (fun k => k = b) _ (j := 1) rfl (.int .i64 ((0 : Nat) : Int))).trans (Chg.setCell (fun k => k = b) _ (j := 3) rfl (.bool true)))))
      clear hie ho hbr hrf hb2 hid HO2
      go_wp2_with fail
      go_end0
      exact ⟨rfl, ⟨g', cap', HF.out⟩, HCF.out⟩
end Go.Proofs.YtilpbjcbffbjeaaGreatDoor
