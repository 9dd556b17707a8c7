/- The document's Copy; a disk of the program's beside the document's. -/
import Derived.Test.YtilpbjcbffbjeaaGreatDoorDRef11
import Derived.Test.YtilpbjcbffbjeaaGreatDoorDFixedW
namespace Go.Proofs.YtilpbjcbffbjeaaGreatDoor
set_option linter.unusedVariables false
set_option maxRecDepth 100000
open Go.RowKit
section
variable {B : Nat} {w0 w w' : World} {b g cap : Nat} {D : Dk}
/-- They lie apart: their blocks are of other types. -/
theorem IsDisk.apart {b' g' cap' : Nat} {D' : Dk} (h : IsDisk w b g cap D) (k : IsR B w0 w b' g' cap' D') : b' ≠ b ∧ b' ≠ g := by
  obtain ⟨cv, h1, _⟩ := h.blk
  obtain ⟨cur, h2, _⟩ := h.fs.blk
  obtain ⟨v, cv', h3, _, _⟩ := k.blk
  refine ⟨fun e => ?_, fun e => ?_⟩
  · subst e
    rw [h1] at h3
    injection h3 with h3
    injection h3 with _ hT _
    exact absurd hT (by decide)
  · subst e
    rw [h2] at h3
    injection h3 with h3
    injection h3 with _ hT _
    exact absurd hT (by decide)
/-- The program's disk and the document's, in one state. -/
structure Duo (B : Nat) (w0 w : World) (b g r : Nat) (D : Dk) : Prop where
  p : ∃ cap, IsDisk w b g cap D
  q : ∃ g' cap', IsR B w0 w r g' cap' D
  bB : B ≤ b
  gB : B ≤ g
theorem Duo.apart {r : Nat} (h : Duo B w0 w b g r D) : r ≠ b ∧ r ≠ g ∧ b ≠ g := by
  obtain ⟨cap, h1⟩ := h.p
  obtain ⟨g', cap', h2⟩ := h.q
  exact ⟨(h1.apart h2).1, (h1.apart h2).2, h1.ne⟩
theorem Duo.lt {r : Nat} (h : Duo B w0 w b g r D) : b < w.heap.size ∧ g < w.heap.size ∧ r < w.heap.size ∧ B ≤ r := by
  obtain ⟨cap, h1⟩ := h.p
  obtain ⟨g', cap', h2⟩ := h.q
  exact ⟨h1.lt, h1.fs.lt, h2.lt, h2.bB⟩
/-- What a call on a duo may turn. -/
def Of (b g r : Nat) (k : Nat) : Prop := k = b ∨ k = g ∨ k = r
theorem Duo.muts {r : Nat} (h : Duo B w0 w b g r D) : Muts (Of b g r) w := by
  intro k hk hS cur T fr hh
  obtain ⟨cap, h1⟩ := h.p
  obtain ⟨g', cap', h2⟩ := h.q
  rcases hS with rfl | rfl | rfl
  · exact h1.muts k hk (.inl rfl) cur T fr hh
  · exact h1.muts k hk (.inr rfl) cur T fr hh
  · exact h2.muts k hk rfl cur T fr hh
/-- A duo that a change leaves alone. -/
theorem Duo.keep {r : Nat} {S : Nat → Prop} (h : Duo B w0 w b g r D) (hc : Chg S w w') (hb : ¬ S b) (hg : ¬ S g) (hr : ¬ S r) (hB : ∀ k, k < B → ¬ S k) (hm : Muts S w) : Duo B w0 w' b g r D := by
  obtain ⟨cap, h1⟩ := h.p
  obtain ⟨g', cap', h2⟩ := h.q
  exact ⟨⟨cap, h1.keep hc hb hg hm⟩, ⟨g', cap', h2.keep hc hr hB hm⟩, h.bB, h.gB⟩
theorem Duo.grow {r : Nat} (h : Duo B w0 w b g r D) (hb : Below w.heap.size w w') : Duo B w0 w' b g r D := h.keep (Chg.of_below (fun _ => False) hb) id id id (fun _ _ => id) (muts_none w)
/-- Behind the program's call. -/
theorem Duo.left {r : Nat} {D' : Dk} (h : Duo B w0 w b g r D) {cap' : Nat} (hd : IsDisk w' b g cap' D') (hc : Chg (fun k => k = b ∨ k = g) w w') : ∃ g' cap', IsR B w0 w' r g' cap' D := by
  obtain ⟨cap, h1⟩ := h.p
  obtain ⟨g', cap', h2⟩ := h.q
  have ha := h1.apart h2
  exact ⟨g', cap', h2.keep hc (by rintro (e | e); exact ha.1 e; exact ha.2 e) (fun k hk hS => by have := h.bB; have := h.gB; rcases hS with e | e <;> omega) h1.muts⟩
/-- Behind the document's call. -/
theorem Duo.right {r cap g' cap' g'' cap'' : Nat} {D D' D'' : Dk} (hd : IsDisk w b g cap D') (k : IsR B w0 w r g' cap' D) (hk : IsR B w0 w' r g'' cap'' D'') (hc : Chg (fun k => k = r) w w') : IsDisk w' b g cap D' := by
  have ha := hd.apart k
  exact hd.keep hc (fun e => ha.1 e.symm) (fun e => ha.2 e.symm) k.muts
end
end Go.Proofs.YtilpbjcbffbjeaaGreatDoor
