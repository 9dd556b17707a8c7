/- What is written into a list of strings of one's own leaves disks alone whose writes are all safe. -/
import Derived.Test.YtilpbjcbffbjeaaGreatDoorPkJ
import Derived.Test.YtilpbjcbffbjeaaGreatDoorDDoes1
namespace Go.Proofs.YtilpbjcbffbjeaaGreatDoor
set_option linter.unusedVariables false
set_option maxRecDepth 100000
open Go.RowKit
def NoW (D : Dk) : Prop := ∀ i, (D.l.getD i Fl.zero).ws = []
/-- Block X holds strings, before and after; nothing else is turned. -/
structure Over (X : Nat) (w w' : World) : Prop where
  chg : Chg (fun k => k = X) w w'
  blk : ∃ cur cur' : Array Value, w.heap[X]? = some (.cells cur 9 (0, 0)) ∧ w'.heap[X]? = some (.cells cur' 9 (0, 0)) ∧ cur'.size = cur.size
section
variable {X b g cap : Nat} {w w' : World} {D : Dk} {v : Value} {l : List Fl}
theorem Over.ne (h : Over X w w') {k T : Nat} {cs : Array Value} (hk : w.heap[k]? = some (.cells cs T (0, 0))) (hT : T ≠ 9) : k ≠ X := by
  rintro rfl
  obtain ⟨cur, cur', h1, _⟩ := h.blk
  rw [h1] at hk
  injection hk with hk
  injection hk with _ e _
  exact hT e.symm
theorem Over.block (h : Over X w w') {k T : Nat} {cs : Array Value} (hk : w.heap[k]? = some (.cells cs T (0, 0))) (hT : T ≠ 9) : w'.heap[k]? = some (.cells cs T (0, 0)) :=
  (h.chg.block k (Array.getElem?_eq_some_iff.1 hk).1 (h.ne hk hT)).trans hk
theorem Over.ws (h : Over X w w') (hv : WS w v []) : WS w' v [] := by
  refine ⟨hv.1, ?_⟩
  rcases hv.2 with h1 | ⟨g, cap, cur, hv, hb, hg, h3, h4, h5, h6⟩
  · exact .inl h1
  · by_cases hX : g = X
    · subst hX
      obtain ⟨cur1, cur', h1, h2, hz⟩ := h.blk
      rw [h1] at hg
      injection hg with hg
      injection hg with e _ _
      subst e
      exact .inr ⟨g, cap, cur', hv, hb, h2, h3, h4, by first | exact hz.trans h5 | (rw [hz]; exact h5), by simp⟩
    · exact .inr ⟨g, cap, cur, hv, hb, (h.chg.block g (Array.getElem?_eq_some_iff.1 hg).1 hX).trans hg, h3, h4, h5, h6⟩
theorem Over.row (h : Over X w w') {T : Nat} {xs : List Value} {base : Nat} {n : Nat} (hv : w.ownsRow base T 1 v n xs) (hT : T ≠ 9) : w'.ownsRow base T 1 v n xs :=
  row_keep hv h.chg fun k hk _ hS cur fr hh => by
    subst hS
    obtain ⟨cur1, cur', h1, _⟩ := h.blk
    rw [h1] at hh
    injection hh with hh
    injection hh with _ e _
    exact hT e.symm
theorem Over.wcs (h : Over X w w') {css : List (List Int)} (hv : WCs w v css) : WCs w' v css := by
  obtain ⟨us, hl, hr, hi⟩ := hv
  exact ⟨us, hl, h.row hr (by decide), fun i k => h.row (hi i k) (by decide)⟩
theorem IsDisk.over (h : IsDisk w b g cap D) (hn : NoW D) (ho : Over X w w') : IsDisk w' b g cap D := by
  obtain ⟨cv, h1, h2⟩ := h.blk
  obtain ⟨cur, h3, h4⟩ := h.fs.blk
  have hg := ho.block h3 (by decide)
  have hc : ∀ j, w'.cell? ⟨g, j, none⟩ = w.cell? ⟨g, j, none⟩ := fun j => by
    unfold World.cell?; rw [hg, h3]
  refine ⟨⟨cv, ho.block h1 (by decide), ho.wcs h2⟩, ⟨⟨cur, hg, h4⟩, h.fs.capm, h.fs.len, fun i hi => (hc _).trans (h.fs.safe i hi), fun i hi => ?_⟩⟩
  obtain ⟨u, hu, hw⟩ := h.fs.ws i hi
  rw [hn i] at hw ⊢
  exact ⟨u, (hc _).trans hu, ho.ws hw⟩
theorem IsR.over {B : Nat} {w0 : World} (h : IsR B w0 w b g cap D) (hn : NoW D) (ho : Over X w w') (hB : B ≤ X) : IsR B w0 w' b g cap D := by
  obtain ⟨v, cv, h1, h2, h5⟩ := h.blk
  obtain ⟨cur, h3, h4⟩ := h2.blk
  have hg := ho.block h3 (by decide)
  have hc : ∀ j, w'.cell? ⟨g, j, none⟩ = w.cell? ⟨g, j, none⟩ := fun j => by
    unfold World.cell?; rw [hg, h3]
  refine ⟨⟨v, cv, ho.block h1 (by decide), ⟨h2.form, ⟨cur, hg, h4⟩, h2.capm, h2.len, fun i hi => (hc _).trans (h2.safe i hi), fun i hi => ?_⟩, h5⟩, h.bB, ?_, h.le⟩
  · obtain ⟨u, hu, hw⟩ := h2.ws i hi
    rw [hn i] at hw ⊢
    exact ⟨u, (hc _).trans hu, ho.ws hw⟩
  · exact ⟨ho.chg.os.trans h.below.os, ho.chg.tape.trans h.below.tape, ho.chg.output.trans h.below.output, Nat.le_trans h.below.size ho.chg.size, fun k hk => (ho.chg.block k (by have := h.bB; have := h.lt; omega) (by omega)).trans (h.below.block k hk)⟩
end
/-! No writes: the calls of an opening keep it so. -/
theorem nw_set {l : List Fl} (h : ∀ i, (l.getD i Fl.zero).ws = []) (f : Nat) (s : ByteArray) : ∀ i, ((l.set f ⟨s, []⟩).getD i Fl.zero).ws = [] := fun i => by
  by_cases e : f = i
  · subst e
    by_cases hl : f < l.length
    · rw [getD_set_self _ _ _ _ hl]
    · rw [List.getD_eq_getElem?_getD, List.getElem?_eq_none (by rw [List.length_set]; omega)]; rfl
  · rw [getD_set_ne _ _ _ _ _ e]; exact h i
theorem nw_died (D : Dk) (css : List (List Int)) : NoW (D.died css) := fun i => by
  show (((D.after css).map (fun s => (⟨s, []⟩ : Fl))).getD i Fl.zero).ws = []
  rw [List.getD_eq_getElem?_getD, List.getElem?_map]
  rcases (D.after css)[i]? with _ | s <;> rfl
theorem NoW.sync {D : Dk} (h : NoW D) (f : Int) : NoW (D.syncX f).1 := by
  unfold Dk.syncX
  split
  · exact h
  split
  · exact h
  unfold Dk.sync
  split
  · exact nw_died _ _
  · exact nw_set (l := D.l) h _ _
theorem NoW.cut {D : Dk} (h : NoW D) (f n : Int) : NoW (D.cutX f n).1 := by
  unfold Dk.cutX
  split
  · exact h
  split
  · exact h
  split
  · exact h
  unfold Dk.cut
  split
  · exact nw_died _ _
  · rw [h f.toNat]; exact nw_set (l := D.l) h _ _
theorem OC.nw {D D' : Dk} {f : Int} {r : OR} (h : NoW D) (hc : OC D f D' r) : NoW D' := by
  have k1 : ∀ {D D1 : Dk} {f : Int} {r : Int}, NoW D → D.syncX f = (D1, r) → NoW D1 := fun {D D1 f r} h e => by have := NoW.sync h f; rwa [e] at this
  have k2 : ∀ {D D1 : Dk} {f n : Int} {r : Int}, NoW D → D.cutX f n = (D1, r) → NoW D1 := fun {D D1 f n r} h e => by have := NoW.cut h f n; rwa [e] at this
  have ks : ∀ {n : Nat} {D1 D2 : Dk}, Syn D n D1 D2 → NoW D2 := fun s => k1 (k1 h s.e1) s.e2
  have kc : ∀ {n : Nat} {D2 D3 : Dk}, NoW D2 → Cut1 D2 n D3 → NoW D3 := fun {n D2 D3} h2 c => by
    by_cases e : (pkOf D2 n).fin + lens (rsOf (pkOf D2 n)) < (pkOf D2 n).bytes.size
    · exact k2 h2 (c.y e)
    · rw [c.n e]; exact h2
  cases hc with
  | dead hd => exact h
  | no hd hf => exact h
  | sync1 n D1 hn hd hl e1 k1' hd1 => exact k1 h e1
  | sync2 n D1 D2 hn hd hl e1 k1' e2 => exact k1 (k1 h e1) e2
  | form n D1 D2 hn s hg => exact ks s
  | cut1 n D1 D2 D3 hn s hg h3 e3 => exact k2 (ks s) e3
  | cut2 n D1 D2 D3 D4 o hn s c ho hz e4 => exact k2 (kc (ks s) c) e4
  | ok n D1 D2 D3 D4 o hn s c ho h4 h4' =>
    by_cases e : 0 < (rd (D3.l.getD o Fl.zero)).size
    · exact k2 (kc (ks s) c) (h4 e)
    · rw [h4' (by omega)]; exact kc (ks s) c
end Go.Proofs.YtilpbjcbffbjeaaGreatDoor
