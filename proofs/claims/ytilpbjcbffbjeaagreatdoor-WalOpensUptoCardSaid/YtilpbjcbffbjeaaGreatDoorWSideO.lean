/- Both Opens, side by side. -/
import Derived.Test.YtilpbjcbffbjeaaGreatDoorWOver
import Derived.Test.YtilpbjcbffbjeaaGreatDoorWROpenA
import Derived.Test.YtilpbjcbffbjeaaGreatDoorPkD
namespace Go.Proofs.YtilpbjcbffbjeaaGreatDoor
set_option linter.unusedVariables false
set_option maxRecDepth 100000
open Go.RowKit
theorem lens_scanF (f : Nat) : ∀ (m : List Nat) (k : Nat), (∀ c ∈ m, c < 256) → lens (scanF f m k) ≤ m.length := by
  induction f with
  | zero => intro m k _; exact Nat.zero_le _
  | succ f ih =>
    intro m k hm
    unfold scanF
    rcases hw : whole m with _ | ⟨n, p⟩
    · exact Nat.zero_le _
    · dsimp only
      split
      · have h1 := length_whole hm hw
        have h2 := ih (m.drop (19 + p.length)) (k + 1) (fun c hc => hm c (List.mem_of_mem_drop hc))
        rw [List.length_drop] at h2
        rw [lens]; omega
      · exact Nat.zero_le _
theorem rsOf_len (D2 : Dk) (k2 : DOk D2) (n : Nat) (hn : n + 1 < D2.l.length) : (rsOf (pkOf D2 n)).length ≤ 262144 := by
  have h1 := lens_scanF ((((bs (pkOf D2 n).bytes).drop (pkOf D2 n).fin).length + 1)) ((bs (pkOf D2 n).bytes).drop (pkOf D2 n).fin) 0 (fun c hc => bs_lt _ c (List.mem_of_mem_drop hc))
  have h2 := lens_ge (rsOf (pkOf D2 n))
  have h3 : (pkOf D2 n).bytes.size ≤ 262144 := pkAt_size _ _ _ 262144 (k2.size n (by omega)) (k2.size (n + 1) hn) 2
  rw [List.length_drop, length_bs] at h1
  unfold rsOf scan at h2 ⊢
  rw [List.length_drop, length_bs] at h2 ⊢
  omega
theorem OC.len {D D' : Dk} {f : Int} {L : Lg} {q : List Nat} {rs : List (List Nat)} (hc : OC D f D' (.ok L q rs)) : rs.length ≤ 262144 := by
  cases hc with
  | ok n D1 D2 D3 D4 o hn s c ho h4 h4' => exact rsOf_len D2 s.k2 n (by have := s.hf; have := s.hl2; omega)
theorem OwnsS.setO {w : World} {base X n c : Nat} {ss : List ByteArray} (h : OwnsS w base (.slice (some ⟨X, 0, none⟩) n c) ss) {i : Nat} (hi : i < ss.length) (s : ByteArray) :
    OwnsS (w.setCell ⟨X, i, none⟩ (.string s)) base (.slice (some ⟨X, 0, none⟩) n c) (ss.set i s) ∧ (∃ o, w.cell? ⟨X, i, none⟩ = some o) ∧ w.frozen? ⟨X, i, none⟩ = false ∧ base ≤ X ∧ Over X w (w.setCell ⟨X, i, none⟩ (.string s)) := by
  rcases h.2 with ⟨hv, _⟩ | ⟨g, cap, cur, hv, hb, hg, h3, h4, h5, h6⟩
  · cases hv
  · have hX : X = g := by injection hv with e _ _; injection e with e; injection e
    subst hX
    have hsz : i < cur.size := by omega
    refine ⟨⟨by rw [List.length_map, List.length_set]; have := h.1; rw [List.length_map] at this; omega, .inr ⟨X, cap, cur.setIfInBounds i (.string s), by rw [List.length_set]; exact hv, hb, setCell_blk w X i _ hg, by rw [List.length_set]; exact h3, h4, by rw [Array.size_setIfInBounds]; exact h5, ?_⟩⟩, ⟨cur[i], ?_⟩, frozen_of_row w X i cur _ hg, hb, Chg.setCell (fun k => k = X) w rfl _, cur, _, hg, setCell_blk w X i _ hg, Array.size_setIfInBounds⟩
    · rw [List.length_set, Array.toList_setIfInBounds, List.take_set, h6, List.map_set]
    · rw [cell_of_row w X i cur _ _ hg, Array.getElem?_eq_getElem hsz]
/-- The pair of logs, over its disks. -/
structure IsSide (w : World) (sb b r : Nat) : Prop where
  blk : ∃ vx vy, w.heap[sb]? = some (.cells #[vx, .pointer (some ⟨b, 0, none⟩), vy, .pointer (some ⟨r, 0, none⟩)] 72 (0, 0))
section
variable {B b g r sb cap : Nat} {w0 w w' : World} {D : Dk}
theorem IsSide.lt (h : IsSide w sb b r) : sb < w.heap.size := by obtain ⟨vx, vy, h⟩ := h.blk; exact (Array.getElem?_eq_some_iff.1 h).1
theorem IsSide.c1 (h : IsSide w sb b r) : w.cell? ⟨sb, 1, none⟩ = some (.pointer (some ⟨b, 0, none⟩)) := by obtain ⟨vx, vy, h⟩ := h.blk; rw [cell_of_row w sb 1 _ _ _ h]; rfl
theorem IsSide.c3 (h : IsSide w sb b r) : w.cell? ⟨sb, 3, none⟩ = some (.pointer (some ⟨r, 0, none⟩)) := by obtain ⟨vx, vy, h⟩ := h.blk; rw [cell_of_row w sb 3 _ _ _ h]; rfl
theorem IsSide.c0 (h : IsSide w sb b r) : ∃ v, w.cell? ⟨sb, 0, none⟩ = some v := by obtain ⟨vx, vy, h⟩ := h.blk; exact ⟨vx, by rw [cell_of_row w sb 0 _ _ _ h]; rfl⟩
theorem IsSide.c2 (h : IsSide w sb b r) : ∃ v, w.cell? ⟨sb, 2, none⟩ = some v := by obtain ⟨vx, vy, h⟩ := h.blk; exact ⟨vy, by rw [cell_of_row w sb 2 _ _ _ h]; rfl⟩
theorem IsSide.free (h : IsSide w sb b r) (j : Nat) : w.frozen? ⟨sb, j, none⟩ = false := by obtain ⟨vx, vy, h⟩ := h.blk; exact frozen_of_row w sb j _ _ h
theorem IsSide.keep {S : Nat → Prop} (h : IsSide w sb b r) (hc : Chg S w w') (hn : ¬ S sb) : IsSide w' sb b r := by obtain ⟨vx, vy, k⟩ := h.blk; exact ⟨vx, vy, (hc.block sb h.lt hn).trans k⟩
theorem IsSide.below (h : IsSide w sb b r) (hb : Below w.heap.size w w') : IsSide w' sb b r := by obtain ⟨vx, vy, k⟩ := h.blk; exact ⟨vx, vy, (hb.block sb h.lt).trans k⟩
theorem IsSide.set (h : IsSide w sb b r) (vx vy : Value) : IsSide ((w.setCell ⟨sb, 0, none⟩ vx).setCell ⟨sb, 2, none⟩ vy) sb b r := by
  obtain ⟨ux, uy, k⟩ := h.blk
  have k1 := setCell_blk w sb 0 vx k
  exact ⟨vx, vy, setCell_blk _ sb 2 vy k1⟩
theorem IsSide.muts (h : IsSide w sb b r) : Muts (fun k => k = sb) w := by
  intro k _ hk cur T fr hh
  subst hk
  obtain ⟨ux, uy, k⟩ := h.blk
  rw [k] at hh
  injection hh with hh
  injection hh with _ hT _
  subst hT
  unfold Fix
  decide
theorem IsSide.ne (h : IsSide w sb b r) (hd : Duo B w0 w b g r D) : sb ≠ b ∧ sb ≠ g ∧ sb ≠ r := by
  obtain ⟨ux, uy, k⟩ := h.blk
  obtain ⟨cap, hp⟩ := hd.p
  obtain ⟨g', cap', hq⟩ := hd.q
  obtain ⟨cv, h1, _⟩ := hp.blk
  obtain ⟨cur, h2, _⟩ := hp.fs.blk
  obtain ⟨v, cv', h3, _, _⟩ := hq.blk
  refine ⟨?_, ?_, ?_⟩
  · rintro rfl; rw [h1] at k; injection k with k; injection k with _ hT _; exact absurd hT (by decide)
  · rintro rfl; rw [h2] at k; injection k with k; injection k with _ hT _; exact absurd hT (by decide)
  · rintro rfl; rw [h3] at k; injection k with k; injection k with _ hT _; exact absurd hT (by decide)
theorem Duo.over {X : Nat} (h : Duo B w0 w b g r D) (hn : NoW D) (ho : Over X w w') (hB : B ≤ X) : Duo B w0 w' b g r D := by
  obtain ⟨cap, hp⟩ := h.p
  obtain ⟨g', cap', hq⟩ := h.q
  exact ⟨⟨cap, hp.over hn ho⟩, ⟨g', cap', hq.over hn ho hB⟩, h.bB, h.gB⟩
end
end Go.Proofs.YtilpbjcbffbjeaaGreatDoor
