/- Disks in memory: what may turn in a call, slices of strings and of ints that nobody writes, files, disks. -/
import Derived.Test.YtamaefnlicloaaaDoorDPlain
import Derived.Test.YtamaefnlicloaaaDoorProg
import Derived.ArgAppend
import Derived.Deep.AppendLies
namespace Go.Proofs.YtamaefnlicloaaaDoor
set_option linter.unusedVariables false
open Go.RowKit
/-- The blocks of S may have turned, the others have not. -/
structure Chg (S : Nat → Prop) (w w' : World) : Prop where
  os : w'.os = w.os
  tape : w'.tape = w.tape
  output : w'.output = w.output
  size : w.heap.size ≤ w'.heap.size
  block : ∀ k, k < w.heap.size → ¬ S k → w'.heap[k]? = w.heap[k]?
section
variable {S S' : Nat → Prop} {w w' w'' : World}
theorem Chg.refl (S : Nat → Prop) (w : World) : Chg S w w := ⟨rfl, rfl, rfl, Nat.le_refl _, fun _ _ _ => rfl⟩
theorem Chg.trans (h : Chg S w w') (k : Chg S w' w'') : Chg S w w'' :=
  ⟨k.os.trans h.os, k.tape.trans h.tape, k.output.trans h.output, Nat.le_trans h.size k.size, fun i hi hn => (k.block i (Nat.lt_of_lt_of_le hi h.size) hn).trans (h.block i hi hn)⟩
theorem Chg.mono (h : Chg S w w') (hs : ∀ k, k < w.heap.size → S k → S' k) : Chg S' w w' := ⟨h.os, h.tape, h.output, h.size, fun k hk hn => h.block k hk (fun hS => hn (hs k hk hS))⟩
theorem Chg.of_below (S : Nat → Prop) (h : Below w.heap.size w w') : Chg S w w' := ⟨h.os, h.tape, h.output, h.size, fun k hk _ => h.block k hk⟩
theorem Chg.of_grown {g : Nat} (h : w.grownBy w' (some g)) (hg : S g) : Chg S w w' := ⟨h.os, h.tape, h.output, h.size, fun k hk hn => h.block k hk (fun e => hn (by injection e with e; exact e ▸ hg))⟩
theorem Chg.of_none (S : Nat → Prop) (h : w.grownBy w' none) : Chg S w w' := ⟨h.os, h.tape, h.output, h.size, fun k hk _ => h.block k hk (by simp)⟩
theorem Chg.setCell (S : Nat → Prop) (w : World) {g j : Nat} (hg : S g) (v : Value) : Chg S w (w.setCell ⟨g, j, none⟩ v) :=
  ⟨rfl, rfl, rfl, by simp [World.setCell], fun k _ hn => Below.heap_setCell w ⟨g, j, none⟩ v k (fun e => hn (by subst e; exact hg))⟩
theorem Chg.below (h : Chg S w w') {B : Nat} (hB : B ≤ w.heap.size) (hs : ∀ k, k < B → ¬ S k) : Below B w w' := ⟨h.os, h.tape, h.output, h.size, fun k hk => h.block k (Nat.lt_of_lt_of_le hk hB) (hs k hk)⟩
theorem Chg.none (h : Chg (fun _ => False) w w') : Below w.heap.size w w' := h.below (Nat.le_refl _) (fun _ _ => id)
theorem Chg.cell (h : Chg S w w') {p : Addr} {v : Value} (hn : ¬ S p.block) (hc : w.cell? p = some v) : w'.cell? p = some v := (World.cell?_of_block (h.block p.block (block_lt_of_cell hc) hn)).trans hc
end
/-- A block of a type whose blocks nobody writes once they are made. -/
def Fix (T : TypeId) : Prop := T = 9 ∨ T = 3 ∨ T = 57 ∨ T = 1000000
/-- S's blocks are none of those. -/
def Muts (S : Nat → Prop) (w : World) : Prop := ∀ k, k < w.heap.size → S k → ∀ cur T fr, w.heap[k]? = some (.cells cur T fr) → ¬ Fix T
/-- A slice of elements that nobody writes, in a block of its own. -/
def Row1 (w : World) (T : TypeId) (v : Value) (xs : List Value) : Prop := w.ownsRow 0 T 1 v xs.length xs
theorem Row1.keep {S : Nat → Prop} {w w' : World} {T : TypeId} {v : Value} {xs : List Value} (h : Row1 w T v xs) (hc : Chg S w w') (hm : Muts S w) (hT : Fix T) : Row1 w' T v xs := by
  refine ⟨h.1, ?_⟩
  rcases h.2 with h1 | ⟨g, cap, cur, hv, hb, hg, h3, h4, h5, h6⟩
  · exact .inl h1
  · have hlt : g < w.heap.size := (Array.getElem?_eq_some_iff.1 hg).1
    exact .inr ⟨g, cap, cur, hv, hb, (hc.block g hlt (fun hS => hm g hlt hS _ _ _ hg hT)).trans hg, h3, h4, h5, h6⟩
theorem Row1.keepT {S : Nat → Prop} {w w' : World} {T : TypeId} {v : Value} {xs : List Value} (h : Row1 w T v xs) (hc : Chg S w w') (hm : ∀ k, k < w.heap.size → S k → ∀ cur fr, w.heap[k]? ≠ some (.cells cur T fr)) : Row1 w' T v xs := by
  refine ⟨h.1, ?_⟩
  rcases h.2 with h1 | ⟨g, cap, cur, hv, hb, hg, h3, h4, h5, h6⟩
  · exact .inl h1
  · have hlt : g < w.heap.size := (Array.getElem?_eq_some_iff.1 hg).1
    exact .inr ⟨g, cap, cur, hv, hb, (hc.block g hlt (fun hS => hm g hlt hS _ _ hg)).trans hg, h3, h4, h5, h6⟩
theorem Row1.below {w w' : World} {T : TypeId} {v : Value} {xs : List Value} (h : Row1 w T v xs) (hb : Below w.heap.size w w') : Row1 w' T v xs := by
  refine ⟨h.1, ?_⟩
  rcases h.2 with h1 | ⟨g, cap, cur, hv, hb1, hg, h3, h4, h5, h6⟩
  · exact .inl h1
  · exact .inr ⟨g, cap, cur, hv, hb1, (hb.block g (Array.getElem?_eq_some_iff.1 hg).1).trans hg, h3, h4, h5, h6⟩
theorem Row1.form {w : World} {T : TypeId} {v : Value} {xs : List Value} (h : Row1 w T v xs) : ∃ p cap, v = .slice p xs.length cap ∧ xs.length ≤ cap ∧ ∀ i, i < xs.length → ∃ g, p = some ⟨g, 0, none⟩ ∧ w.cell? ⟨g, i, none⟩ = xs[i]? := by
  rcases h.2 with ⟨hv, hn⟩ | ⟨g, cap, cur, hv, hb, hg, h3, h4, h5, h6⟩
  · exact ⟨none, 0, by rw [hv, hn], by omega, fun i hi => by omega⟩
  · refine ⟨_, cap, hv, h3, fun i hi => ⟨g, rfl, ?_⟩⟩
    have h7 := World.ownsRow.cellAt (w := w) (base := 0) (e := T) (size := 1) (g := g) (cap := cap) (n := xs.length) (xs := xs) (by rw [← hv]; exact h) i (by omega)
    exact h7
/-- The value of a slice of strings, in a block of its own. -/
def WS (w : World) (v : Value) (ss : List ByteArray) : Prop := Row1 w 9 v (ss.map Value.string)
theorem WS.keep {S : Nat → Prop} {w w' : World} {v : Value} {ss : List ByteArray} (h : WS w v ss) (hc : Chg S w w') (hm : Muts S w) : WS w' v ss := Row1.keep h hc hm (.inl rfl)
theorem WS.below {w w' : World} {v : Value} {ss : List ByteArray} (h : WS w v ss) (hb : Below w.heap.size w w') : WS w' v ss := Row1.below h hb
theorem WS.nil (w : World) : WS w (.slice none 0 0) [] := World.ownsRow_nil _ _ _ _
theorem WS.strs {w : World} {v : Value} {ss : List ByteArray} (h : WS w v ss) : Strs w v ss := by
  obtain ⟨p, cap, hv, _, hc⟩ := Row1.form h
  rw [List.length_map] at hv hc
  rw [hv]
  refine Strs.mk fun i hi => ?_
  obtain ⟨g, hp, hcell⟩ := hc i hi
  refine ⟨g, 0, hp, ?_⟩
  rw [Nat.zero_add, hcell, List.getElem?_map, List.getElem?_eq_getElem hi, List.getD_eq_getElem?_getD, List.getElem?_eq_getElem hi]
  rfl
theorem WS.form {w : World} {v : Value} {ss : List ByteArray} (h : WS w v ss) : ∃ p cap, v = .slice p ss.length cap ∧ ss.length ≤ cap := by
  obtain ⟨p, cap, hv, hl, _⟩ := Row1.form h
  rw [List.length_map] at hv hl
  exact ⟨p, cap, hv, hl⟩
theorem WS.parts {w : World} {p : Option Addr} {n cap : Nat} {ss : List ByteArray} (h : WS w (.slice p n cap) ss) : n = ss.length ∧ cap ≤ maxLen ∧ (p = none → n = 0 ∧ cap = 0) ∧
    (∀ b, p = some b → b.block < w.heap.size ∧ ∀ j u, (ss.map Value.string)[j]? = some u → w.cell? (b.add j) = some u) := by
  have h0 := h.2
  rw [List.length_map] at h0
  rcases h0 with ⟨hv, hn⟩ | ⟨g, cap', cur, hv, hb, hg, h3, h4, h5, h6⟩
  · injection hv with h1 h2 h3
    subst h1
    exact ⟨by omega, by omega, fun _ => ⟨h2, h3⟩, fun b hb => by cases hb⟩
  · injection hv with h1 h2 h7
    subst h1
    refine ⟨h2, by omega, fun hb => (by cases hb), fun b hb => ?_⟩
    injection hb with hb
    subst hb
    refine ⟨(Array.getElem?_eq_some_iff.1 hg).1, fun j u hu => ?_⟩
    have hj : j < ss.length := by have := (List.getElem?_eq_some_iff.1 hu).1; simpa using this
    have h8 := World.ownsRow.cellAt (w := w) (base := 0) (e := 9) (size := 1) (g := g) (cap := cap') (n := (ss.map Value.string).length) (xs := ss.map Value.string) (by
      have h9 := h
      unfold WS Row1 at h9
      rw [h7, h2] at h9
      rw [List.length_map] at h9 ⊢
      exact h9) j (by rw [List.length_map]; omega)
    rw [show (⟨g, 0, none⟩ : Addr).add j = ⟨g, j, none⟩ by unfold Addr.add; split <;> simp_all, h8, hu]
/-- The value of a slice of ints, in a block of its own. -/
def WI (w : World) (v : Value) (zs : List Int) : Prop := Row1 w 3 v (zs.map (Value.int .i64))
theorem WI.ints {w : World} {v : Value} {zs : List Int} (h : WI w v zs) : Ints w v zs := by
  obtain ⟨p, cap, hv, _, hc⟩ := Row1.form h
  rw [List.length_map] at hv hc
  rw [hv]
  refine Ints.mk fun i hi => ?_
  obtain ⟨g, hp, hcell⟩ := hc i hi
  refine ⟨g, 0, hp, ?_⟩
  rw [Nat.zero_add, hcell, List.getElem?_map, List.getElem?_eq_getElem hi, List.getD_eq_getElem?_getD, List.getElem?_eq_getElem hi]
  rfl
theorem Ints.nil (w : World) : Ints w (.slice none 0 0) [] := Ints.mk (p := none) (cap := 0) (zs := []) (fun i hi => absurd hi (Nat.not_lt_zero _))
theorem Ints.keep {S : Nat → Prop} {w w' : World} {v : Value} {zs : List Int} (h : Ints w v zs) (hc : Chg S w w') {B : Nat} (hB : ∀ k, S k → B ≤ k) (hb : ∀ p n c, v = .slice (some p) n c → p.block < B) : Ints w' v zs := by
  obtain ⟨p, cap, rfl, hcell⟩ := h.form
  refine Ints.mk fun i hi => ?_
  obtain ⟨b, off, rfl, h1⟩ := hcell i hi
  exact ⟨b, off, rfl, hc.cell (fun hS => by have := hB _ hS; have := hb _ _ _ rfl; simp at *; omega) h1⟩
/-- The value of a slice of slices of ints, as it is read. -/
def Rss (w : World) (v : Value) (css : List (List Int)) : Prop :=
  ∃ p cap, v = .slice p css.length cap ∧ ∀ i, i < css.length → ∃ b off u, p = some ⟨b, off, none⟩ ∧ w.cell? ⟨b, off + i, none⟩ = some u ∧ Ints w u (css.getD i [])
theorem Rss.below {w w' : World} {v : Value} {css : List (List Int)} (h : Rss w v css) (hb : Below w.heap.size w w') : Rss w' v css := by
  obtain ⟨p, cap, rfl, hc⟩ := h
  refine ⟨p, cap, rfl, fun i hi => ?_⟩
  obtain ⟨b, off, u, rfl, hcell, hi2⟩ := hc i hi
  exact ⟨b, off, u, rfl, (hb.cell (block_lt_of_cell hcell)).trans hcell, hi2.below hb⟩
theorem Rss.nil (w : World) : Rss w (.slice none 0 0) [] := ⟨none, 0, rfl, fun i hi => absurd hi (Nat.not_lt_zero _)⟩
/-- The value of a slice of slices of ints, all in blocks of their own. -/
def WCs (w : World) (v : Value) (css : List (List Int)) : Prop :=
  ∃ us : List Value, us.length = css.length ∧ Row1 w 57 v us ∧ ∀ i, i < css.length → WI w (us.getD i (.slice none 0 0)) (css.getD i [])
theorem WCs.keep {S : Nat → Prop} {w w' : World} {v : Value} {css : List (List Int)} (h : WCs w v css) (hc : Chg S w w') (hm : Muts S w) : WCs w' v css := by
  obtain ⟨us, hl, hr, hi⟩ := h
  exact ⟨us, hl, hr.keep hc hm (.inr (.inr (.inl rfl))), fun i h => Row1.keep (hi i h) hc hm (.inr (.inl rfl))⟩
theorem WCs.nil (w : World) : WCs w (.slice none 0 0) [] := ⟨[], rfl, World.ownsRow_nil _ _ _ _, fun i hi => absurd hi (Nat.not_lt_zero _)⟩
theorem WCs.rss {w : World} {v : Value} {css : List (List Int)} (h : WCs w v css) : Rss w v css := by
  obtain ⟨us, hl, hr, hi⟩ := h
  obtain ⟨p, cap, hv, _, hc⟩ := hr.form
  rw [hl] at hv hc
  refine ⟨p, cap, hv, fun i h => ?_⟩
  obtain ⟨g, hp, hcell⟩ := hc i h
  refine ⟨g, 0, us.getD i (.slice none 0 0), hp, ?_, (hi i h).ints⟩
  rw [Nat.zero_add, hcell, List.getD_eq_getElem?_getD, List.getElem?_eq_getElem (by omega)]
  rfl
/-- The files of a disk, in a block of their own. -/
structure FilesAt (w : World) (g cap : Nat) (l : List Fl) : Prop where
  blk : ∃ cur, w.heap[g]? = some (.cells cur 81 (0, 0)) ∧ cur.size = cap * 2
  capm : cap ≤ maxLen
  len : l.length ≤ cap
  safe : ∀ i, i < l.length → w.cell? ⟨g, i * 2, none⟩ = some (.string (l.getD i Fl.zero).safe)
  ws : ∀ i, i < l.length → ∃ v, w.cell? ⟨g, i * 2 + 1, none⟩ = some v ∧ WS w v (l.getD i Fl.zero).ws
section
variable {S : Nat → Prop} {w w' : World} {g cap : Nat} {l : List Fl}
theorem FilesAt.lt (h : FilesAt w g cap l) : g < w.heap.size := by obtain ⟨cur, hg, _⟩ := h.blk; exact (Array.getElem?_eq_some_iff.1 hg).1
theorem FilesAt.free (h : FilesAt w g cap l) (j : Nat) : w.frozen? ⟨g, j, none⟩ = false := by obtain ⟨cur, hg, _⟩ := h.blk; exact frozen_of_row w g j cur _ hg
theorem FilesAt.keep (h : FilesAt w g cap l) (hc : Chg S w w') (hg : ¬ S g) (hm : Muts S w) : FilesAt w' g cap l := by
  obtain ⟨cur, hb, hs⟩ := h.blk
  refine ⟨⟨cur, (hc.block g h.lt hg).trans hb, hs⟩, h.capm, h.len, fun i hi => hc.cell hg (h.safe i hi), fun i hi => ?_⟩
  obtain ⟨v, h1, h2⟩ := h.ws i hi
  exact ⟨v, hc.cell hg h1, h2.keep hc hm⟩
theorem muts_none (w : World) : Muts (fun _ => False) w := fun _ _ h => h.elim
theorem FilesAt.below (h : FilesAt w g cap l) (hb : Below w.heap.size w w') : FilesAt w' g cap l := h.keep (Chg.of_below (fun _ => False) hb) id (muts_none w)
theorem FilesAt.muts (h : FilesAt w g cap l) : Muts (fun k => k = g) w := by
  intro k _ hk cur T fr hb
  obtain ⟨cur', hg, _⟩ := h.blk
  subst hk
  rw [hg] at hb
  injection hb with hb
  injection hb with _ hT _
  subst hT
  unfold Fix
  decide
theorem FilesAt.there (h : FilesAt w g cap l) {j : Nat} (hj : j < l.length * 2) : (w.cell? ⟨g, j, none⟩).isSome = true := by
  obtain ⟨cur, hg, hs⟩ := h.blk
  have := h.len
  rw [cell_of_row w g j cur _ _ hg, Array.getElem?_eq_getElem (by omega)]
  rfl
theorem getD_set_self {α : Type} (l : List α) (i : Nat) (x d : α) (h : i < l.length) : (l.set i x).getD i d = x := by simp [List.getD_eq_getElem?_getD, h]
theorem getD_set_ne {α : Type} (l : List α) (i j : Nat) (x d : α) (h : i ≠ j) : (l.set i x).getD j d = l.getD j d := by simp [List.getD_eq_getElem?_getD, h]
theorem FilesAt.mkSet (h : FilesAt w g cap l) {f : Nat} (hf : f < l.length) (x : Fl) (hb : ∃ cur, w'.heap[g]? = some (.cells cur 81 (0, 0)) ∧ cur.size = cap * 2) (hc : Chg (fun k => k = g) w w')
    (h1 : w'.cell? ⟨g, f * 2, none⟩ = some (.string x.safe)) (h2 : ∃ v, w'.cell? ⟨g, f * 2 + 1, none⟩ = some v ∧ WS w' v x.ws)
    (h3 : ∀ j, j ≠ f * 2 → j ≠ f * 2 + 1 → w'.cell? ⟨g, j, none⟩ = w.cell? ⟨g, j, none⟩) : FilesAt w' g cap (l.set f x) := by
  refine ⟨hb, h.capm, by rw [List.length_set]; exact h.len, fun i hi => ?_, fun i hi => ?_⟩
  · rw [List.length_set] at hi
    by_cases e : f = i
    · subst e; rw [getD_set_self _ _ _ _ hf]; exact h1
    · rw [getD_set_ne _ _ _ _ _ e, h3 _ (by omega) (by omega)]; exact h.safe i hi
  · rw [List.length_set] at hi
    by_cases e : f = i
    · subst e; rw [getD_set_self _ _ _ _ hf]; exact h2
    · rw [getD_set_ne _ _ _ _ _ e, h3 _ (by omega) (by omega)]
      obtain ⟨v, hv, hw⟩ := h.ws i hi
      exact ⟨v, hv, hw.keep hc h.muts⟩
theorem setCell_blk (w : World) (g j : Nat) (v : Value) {cur : Array Value} {T : TypeId} (h : w.heap[g]? = some (.cells cur T (0, 0))) : (w.setCell ⟨g, j, none⟩ v).heap[g]? = some (.cells (cur.setIfInBounds j v) T (0, 0)) := by
  simp [World.setCell, Array.getElem?_modify, h]
theorem FilesAt.setWs (h : FilesAt w g cap l) {f : Nat} (hf : f < l.length) {v : Value} {ws : List ByteArray} (hv : WS w v ws) : FilesAt (w.setCell ⟨g, f * 2 + 1, none⟩ v) g cap (l.set f ⟨(l.getD f Fl.zero).safe, ws⟩) := by
  have hc : Chg (fun k => k = g) w (w.setCell ⟨g, f * 2 + 1, none⟩ v) := Chg.setCell (fun k => k = g) w rfl v
  obtain ⟨u, hu, _⟩ := h.ws f hf
  refine h.mkSet hf _ ?_ hc ?_ ⟨v, World.cell?_setCell_same _ _ _ hu, hv.keep hc h.muts⟩ (fun j _ hj => World.cell?_setCell_other _ _ _ _ (by intro e; injection e with _ e; exact hj e.symm))
  · obtain ⟨cur, hg, hs⟩ := h.blk
    exact ⟨_, setCell_blk w g _ v hg, by rw [Array.size_setIfInBounds]; exact hs⟩
  · rw [World.cell?_setCell_other _ _ _ _ (by intro e; injection e with _ e; omega)]; exact h.safe f hf
theorem FilesAt.setSafe (h : FilesAt w g cap l) {f : Nat} (hf : f < l.length) (s : ByteArray) : FilesAt (w.setCell ⟨g, f * 2, none⟩ (.string s)) g cap (l.set f ⟨s, (l.getD f Fl.zero).ws⟩) := by
  have hc : Chg (fun k => k = g) w (w.setCell ⟨g, f * 2, none⟩ (.string s)) := Chg.setCell (fun k => k = g) w rfl _
  obtain ⟨u, hu, hw⟩ := h.ws f hf
  refine h.mkSet hf _ ?_ hc (World.cell?_setCell_same _ _ _ (h.safe f hf)) ⟨u, ?_, hw.keep hc h.muts⟩ (fun j hj _ => World.cell?_setCell_other _ _ _ _ (by intro e; injection e with _ e; exact hj e.symm))
  · obtain ⟨cur, hg, hs⟩ := h.blk
    exact ⟨_, setCell_blk w g _ _ hg, by rw [Array.size_setIfInBounds]; exact hs⟩
  · rw [World.cell?_setCell_other _ _ _ _ (by intro e; injection e with _ e; omega)]; exact hu
theorem FilesAt.setBoth (h : FilesAt w g cap l) {f : Nat} (hf : f < l.length) (s : ByteArray) : FilesAt ((w.setCell ⟨g, f * 2, none⟩ (.string s)).setCell ⟨g, f * 2 + 1, none⟩ (.slice none 0 0)) g cap (l.set f ⟨s, []⟩) := by
  have h1 := (h.setSafe hf s).setWs (f := f) (by rw [List.length_set]; exact hf) (WS.nil _)
  rw [List.set_set, getD_set_self _ _ _ _ hf] at h1
  exact h1
end
/-- A disk's state. -/
structure Dk where
  l : List Fl
  armed : Nat
  ch : List (List Int)
  dead : Bool
/-- A disk: its own cells in block b, its files in block g. -/
structure IsDisk (w : World) (b g cap : Nat) (D : Dk) : Prop where
  blk : ∃ cv, w.heap[b]? = some (.cells #[.slice (some ⟨g, 0, none⟩) D.l.length cap, .int .i64 (D.armed : Nat), cv, .bool D.dead] 79 (0, 0)) ∧ WCs w cv D.ch
  fs : FilesAt w g cap D.l
section
variable {S : Nat → Prop} {w w' : World} {b g cap : Nat} {D : Dk}
theorem IsDisk.lt (h : IsDisk w b g cap D) : b < w.heap.size := by obtain ⟨cv, hb, _⟩ := h.blk; exact (Array.getElem?_eq_some_iff.1 hb).1
theorem IsDisk.ne (h : IsDisk w b g cap D) : b ≠ g := by
  obtain ⟨cv, hb, _⟩ := h.blk
  obtain ⟨cur, hg, _⟩ := h.fs.blk
  rintro rfl
  rw [hb] at hg
  injection hg with hg
  injection hg with _ hT _
  exact absurd hT (by decide)
theorem IsDisk.keep (h : IsDisk w b g cap D) (hc : Chg S w w') (hb : ¬ S b) (hg : ¬ S g) (hm : Muts S w) : IsDisk w' b g cap D := by
  obtain ⟨cv, h1, h2⟩ := h.blk
  exact ⟨⟨cv, (hc.block b h.lt hb).trans h1, h2.keep hc hm⟩, h.fs.keep hc hg hm⟩
theorem IsDisk.below (h : IsDisk w b g cap D) (hb : Below w.heap.size w w') : IsDisk w' b g cap D := h.keep (Chg.of_below (fun _ => False) hb) id id (muts_none w)
theorem IsDisk.muts (h : IsDisk w b g cap D) : Muts (fun k => k = b ∨ k = g) w := by
  intro k hk hS cur T fr hh
  rcases hS with rfl | rfl
  · obtain ⟨cv, h1, _⟩ := h.blk
    rw [h1] at hh
    injection hh with hh
    injection hh with _ hT _
    subst hT
    unfold Fix
    decide
  · exact h.fs.muts k hk rfl cur T fr hh
theorem IsDisk.cells (h : IsDisk w b g cap D) : w.cell? ⟨b, 0, none⟩ = some (.slice (some ⟨g, 0, none⟩) D.l.length cap) ∧ w.cell? ⟨b, 1, none⟩ = some (.int .i64 (D.armed : Nat)) ∧
    (∃ cv, w.cell? ⟨b, 2, none⟩ = some cv ∧ WCs w cv D.ch) ∧ w.cell? ⟨b, 3, none⟩ = some (.bool D.dead) := by
  obtain ⟨cv, h1, h2⟩ := h.blk
  exact ⟨cell_of_row w b 0 _ _ _ h1, cell_of_row w b 1 _ _ _ h1, ⟨cv, cell_of_row w b 2 _ _ _ h1, h2⟩, cell_of_row w b 3 _ _ _ h1⟩
theorem IsDisk.free (h : IsDisk w b g cap D) (j : Nat) : w.frozen? ⟨b, j, none⟩ = false := by obtain ⟨cv, hb, _⟩ := h.blk; exact frozen_of_row w b j _ _ hb
/-- The files have turned, or what is new has come. -/
theorem IsDisk.files (h : IsDisk w b g cap D) (hc : Chg (fun k => k = g) w w') {l' : List Fl} (hf : FilesAt w' g cap l') (hl : l'.length = D.l.length) : IsDisk w' b g cap ⟨l', D.armed, D.ch, D.dead⟩ := by
  obtain ⟨cv, h1, h2⟩ := h.blk
  exact ⟨⟨cv, by rw [hl]; exact (hc.block b h.lt h.ne).trans h1, h2.keep hc h.fs.muts⟩, hf⟩
theorem muts_blk {w : World} {b : Nat} {cs : Array Value} (h : w.heap[b]? = some (.cells cs 79 (0, 0))) : Muts (fun k => k = b) w := by
  intro k _ hS cur T fr hh
  subst hS
  rw [h] at hh
  injection hh with hh
  injection hh with _ hT _
  subst hT
  unfold Fix
  decide
theorem IsDisk.setArmed (h : IsDisk w b g cap D) (n : Nat) : IsDisk (w.setCell ⟨b, 1, none⟩ (.int .i64 (n : Nat))) b g cap ⟨D.l, n, D.ch, D.dead⟩ := by
  obtain ⟨cv, h1, h2⟩ := h.blk
  have hc : Chg (fun k => k = b) w (w.setCell ⟨b, 1, none⟩ (.int .i64 (n : Nat))) := Chg.setCell (fun k => k = b) w rfl _
  exact ⟨⟨cv, setCell_blk w b 1 _ h1, h2.keep hc (muts_blk h1)⟩, h.fs.keep hc (Ne.symm h.ne) (muts_blk h1)⟩
theorem IsDisk.setDead (h : IsDisk w b g cap D) (d : Bool) : IsDisk (w.setCell ⟨b, 3, none⟩ (.bool d)) b g cap ⟨D.l, D.armed, D.ch, d⟩ := by
  obtain ⟨cv, h1, h2⟩ := h.blk
  have hc : Chg (fun k => k = b) w (w.setCell ⟨b, 3, none⟩ (.bool d)) := Chg.setCell (fun k => k = b) w rfl _
  exact ⟨⟨cv, setCell_blk w b 3 _ h1, h2.keep hc (muts_blk h1)⟩, h.fs.keep hc (Ne.symm h.ne) (muts_blk h1)⟩
theorem IsDisk.setCh (h : IsDisk w b g cap D) {cv : Value} {ch : List (List Int)} (hv : WCs w cv ch) : IsDisk (w.setCell ⟨b, 2, none⟩ cv) b g cap ⟨D.l, D.armed, ch, D.dead⟩ := by
  obtain ⟨cv', h1, h2⟩ := h.blk
  have hc : Chg (fun k => k = b) w (w.setCell ⟨b, 2, none⟩ cv) := Chg.setCell (fun k => k = b) w rfl _
  exact ⟨⟨cv, setCell_blk w b 2 _ h1, hv.keep hc (muts_blk h1)⟩, h.fs.keep hc (Ne.symm h.ne) (muts_blk h1)⟩
end
end Go.Proofs.YtamaefnlicloaaaDoor
