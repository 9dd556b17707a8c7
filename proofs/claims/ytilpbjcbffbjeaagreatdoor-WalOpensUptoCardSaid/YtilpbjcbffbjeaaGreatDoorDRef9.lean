/- The document's disk: Write. -/
import Derived.Test.YtilpbjcbffbjeaaGreatDoorDRef8
namespace Go.Proofs.YtilpbjcbffbjeaaGreatDoor
set_option linter.unusedVariables false
set_option maxRecDepth 100000
open Go.RowKit
/-- What a call on the document's disk leaves. -/
def RPost (B : Nat) (w0 w : World) (b : Nat) (r : Dk × Int) (e : Ending) (w' : World) : Prop := e = .returned (.int .i64 r.2) ∧ (∃ g' cap', IsR B w0 w' b g' cap' r.1) ∧ Chg (fun k => k = b) w w'
def SPost (B : Nat) (w0 w : World) (b : Nat) (D' : Dk) (w' : World) : Prop := (∃ g' cap', IsR B w0 w' b g' cap' D') ∧ Chg (fun k => k = b) w w'
theorem IsR.chs {B : Nat} {w0 w : World} {b g cap : Nat} {D : Dk} (h : IsR B w0 w b g cap D) : ∃ cv, w.cell? ⟨b, 2, none⟩ = some cv ∧ Rss w cv D.ch := by
  obtain ⟨_, _, ⟨cv, h1, h2⟩, _⟩ := h.cells
  exact ⟨cv, h1, h2.below (by have := h.below; rw [h.le] at this; exact this)⟩
theorem OwnsS.base {w : World} {B base : Nat} {v : Value} {ss : List ByteArray} (h : OwnsS w base v ss) (hB : B ≤ base) : OwnsS w B v ss :=
  ⟨h.1, h.2.imp id (fun ⟨g, cap, cur, e, hh, r⟩ => ⟨g, cap, cur, e, Nat.le_trans hB hh, r⟩)⟩
theorem strs_one {w : World} {X : Nat} {s : ByteArray} (h : w.cell? ⟨X, 0, none⟩ = some (.string s)) : Strs w (.slice (some ⟨X, 0, none⟩) 1 1) [s] :=
  Strs.mk (p := some ⟨X, 0, none⟩) (cap := 1) (ss := [s]) (fun j hj => ⟨X, 0, rfl, by
    have e : j = 0 := by simpa using hj
    subst e
    exact h⟩)
end Go.Proofs.YtilpbjcbffbjeaaGreatDoor
