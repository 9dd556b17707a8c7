/- The document's disk in memory; is, goes, Waiting, Revive. -/
import Derived.Test.YtilpbjcbffbjeaaGreatDoorDRef1
import Derived.Test.YtilpbjcbffbjeaaGreatDoorPkD
namespace Go.Proofs.YtilpbjcbffbjeaaGreatDoor
set_option linter.unusedVariables false
set_option maxRecDepth 100000
open Go.RowKit
/-- The cells of the document's files: safe bytes, and the value of the slice of writes. -/
def rcells (l : List Fl) (vs : Nat → Value) : List Value := (List.range l.length).flatMap fun i => [.string (l.getD i Fl.zero).safe, vs i]
/-- The document's files: a slice in a row of its own that nobody writes once it stands. -/
structure RFs (w : World) (v : Value) (l : List Fl) (g cap : Nat) : Prop where
  form : v = .slice (some ⟨g, 0, none⟩) l.length cap
  blk : ∃ cur, w.heap[g]? = some (.cells cur 129 (0, 0)) ∧ cur.size = cap * 2
  capm : cap ≤ maxLen
  len : l.length ≤ cap
  safe : ∀ i, i < l.length → w.cell? ⟨g, i * 2, none⟩ = some (.string (l.getD i Fl.zero).safe)
  ws : ∀ i, i < l.length → ∃ u, w.cell? ⟨g, i * 2 + 1, none⟩ = some u ∧ WS w u (l.getD i Fl.zero).ws
section
variable {S : Nat → Prop} {w w' : World} {b g cap : Nat} {D : Dk} {v : Value} {l : List Fl}
theorem RFs.lt (h : RFs w v l g cap) : g < w.heap.size := by obtain ⟨cur, hg, _⟩ := h.blk; exact (Array.getElem?_eq_some_iff.1 hg).1
theorem RFs.keep (h : RFs w v l g cap) (hc : Chg S w w') (hm : Muts S w) : RFs w' v l g cap := by
  obtain ⟨cur, hb, hs⟩ := h.blk
  have hg : ¬ S g := fun hS => hm g h.lt hS _ _ _ hb (.inr (.inr (.inr rfl)))
  refine ⟨h.form, ⟨cur, (hc.block g h.lt hg).trans hb, hs⟩, h.capm, h.len, fun i hi => hc.cell hg (h.safe i hi), fun i hi => ?_⟩
  obtain ⟨u, h1, h2⟩ := h.ws i hi
  exact ⟨u, hc.cell hg h1, h2.keep hc hm⟩
/-- A disk of the document's: its choices lie where they came in, in what lay below B in the world w0. -/
structure IsR (B : Nat) (w0 w : World) (b g cap : Nat) (D : Dk) : Prop where
  blk : ∃ v cv, w.heap[b]? = some (.cells #[v, .int .i64 (D.armed : Nat), cv, .bool D.dead] 76 (0, 0)) ∧ RFs w v D.l g cap ∧ Rss w0 cv D.ch
  bB : B ≤ b
  below : Below B w0 w
  le : B = w0.heap.size
variable {B : Nat} {w0 : World}
theorem IsR.lt (h : IsR B w0 w b g cap D) : b < w.heap.size := by obtain ⟨v, cv, hb, _⟩ := h.blk; exact (Array.getElem?_eq_some_iff.1 hb).1
theorem IsR.keep (h : IsR B w0 w b g cap D) (hc : Chg S w w') (hb : ¬ S b) (hB : ∀ k, k < B → ¬ S k) (hm : Muts S w) : IsR B w0 w' b g cap D := by
  obtain ⟨v, cv, h1, h2, h3⟩ := h.blk
  exact ⟨⟨v, cv, (hc.block b h.lt hb).trans h1, h2.keep hc hm, h3⟩, h.bB, h.below.trans (hc.below (by have := h.bB; have := h.lt; omega) hB), h.le⟩
theorem IsR.grow (h : IsR B w0 w b g cap D) (hb : Below w.heap.size w w') : IsR B w0 w' b g cap D := h.keep (Chg.of_below (fun _ => False) hb) id (fun _ _ => id) (muts_none w)
theorem IsR.cells (h : IsR B w0 w b g cap D) : (∃ v, w.cell? ⟨b, 0, none⟩ = some v ∧ RFs w v D.l g cap) ∧ w.cell? ⟨b, 1, none⟩ = some (.int .i64 (D.armed : Nat)) ∧ (∃ cv, w.cell? ⟨b, 2, none⟩ = some cv ∧ Rss w0 cv D.ch) ∧ w.cell? ⟨b, 3, none⟩ = some (.bool D.dead) := by
  obtain ⟨v, cv, h1, h2, h3⟩ := h.blk
  exact ⟨⟨v, cell_of_row w b 0 _ _ _ h1, h2⟩, cell_of_row w b 1 _ _ _ h1, ⟨cv, cell_of_row w b 2 _ _ _ h1, h3⟩, cell_of_row w b 3 _ _ _ h1⟩
theorem IsR.free (h : IsR B w0 w b g cap D) (j : Nat) : w.frozen? ⟨b, j, none⟩ = false := by obtain ⟨v, cv, hb, _⟩ := h.blk; exact frozen_of_row w b j _ _ hb
theorem IsR.muts (h : IsR B w0 w b g cap D) : Muts (fun k => k = b) w := by
  intro k _ hS cur T fr hh
  obtain ⟨v, cv, h1, _⟩ := h.blk
  subst hS
  rw [h1] at hh
  injection hh with hh
  injection hh with _ hT _
  subst hT
  unfold Fix
  decide
end
set_option maxHeartbeats 400000 in
theorem risW {B : Nat} {w0 w : World} {b g cap : Nat} {D : Dk} (h : IsR B w0 w b g cap D) (f : Int) :
    Calls Tryz.prog 127 #[.pointer (some ⟨b, 0, none⟩), .int .i64 f] w fun e w' => e = .returned (.bool (!D.out f)) ∧ w = w' := by
  obtain ⟨v, c0, hr⟩ := h.cells.1
  have hf := hr.form
  have h1 := hr.len
  have h2 := hr.capm
  unfold maxLen at h2
  subst hf
  have ho : D.out f = decide (f < 0 ∨ (D.l.length : Int) ≤ f) := rfl
  clear h hr
  by_cases hneg : f < 0
  · have e : D.out f = true := by rw [ho]; exact decide_eq_true (.inl hneg)
    rw [e]
    clear ho e
    go_enter Tryz.func127, Tryz.ntmps127
    go_wp2_with fail
    go_ret
    exact ⟨rfl, rfl⟩
  · by_cases hbig : (D.l.length : Int) ≤ f
    · have e : D.out f = true := by rw [ho]; exact decide_eq_true (.inr hbig)
      have hd : decide (f < (D.l.length : Int)) = false := by rw [decide_eq_false_iff_not]; omega
      rw [e]
      clear ho e
      go_enter Tryz.func127, Tryz.ntmps127
      go_wp2_with fail
      go_ret
      exact ⟨rfl, rfl⟩
    · have e : D.out f = false := by rw [ho]; exact decide_eq_false (by omega)
      have hd : decide (f < (D.l.length : Int)) = true := by rw [decide_eq_true_iff]; omega
      rw [e]
      clear ho e
      go_enter Tryz.func127, Tryz.ntmps127
      go_wp2_with fail
      go_ret
      exact ⟨rfl, rfl⟩
end Go.Proofs.YtilpbjcbffbjeaaGreatDoor
