/- The walk of fixed. -/
import Derived.Test.YtilpbjcbffbjeaaDoorDFixed
namespace Go.Proofs.YtilpbjcbffbjeaaDoor
open Go.RowKit
theorem strs_two (w : World) (b : Nat) (x y : ByteArray) (h0 : w.cell? ⟨b, 0, none⟩ = some (.string x)) (h1 : w.cell? ⟨b, 1, none⟩ = some (.string y)) : Strs w (.slice (some ⟨b, 0, none⟩) 2 2) [x, y] := by
  refine Strs.mk (ss := [x, y]) fun i hi => ?_
  match i, (show i < 2 from hi) with
  | 0, _ => exact ⟨b, 0, rfl, h0⟩
  | 1, _ => exact ⟨b, 0, rfl, h1⟩
theorem rss_one (w : World) (a b : Nat) (x y : Int) (h : w.cell? ⟨b, 0, none⟩ = some (.slice (some ⟨a, 0, none⟩) 2 2)) (h0 : w.cell? ⟨a, 0, none⟩ = some (.int .i64 x)) (h1 : w.cell? ⟨a, 1, none⟩ = some (.int .i64 y)) :
    Rss w (.slice (some ⟨b, 0, none⟩) 1 1) [[x, y]] := by
  refine ⟨_, 1, rfl, fun i hi => ?_⟩
  match i, (show i < 1 from hi) with
  | 0, _ =>
    refine ⟨b, 0, _, rfl, h, Ints.mk (zs := [x, y]) fun j hj => ?_⟩
    match j, (show j < 2 from hj) with
    | 0, _ => exact ⟨a, 0, rfl, h0⟩
    | 1, _ => exact ⟨a, 0, rfl, h1⟩
theorem chl_one (x y : Int) : ∀ i, (([[x, y]] : List (List Int)).getD i []).length ≤ 1048576 := fun i => by
  match i with
  | 0 => exact (by decide : 2 ≤ 1048576)
  | n + 1 => exact Nat.zero_le _
theorem WS.cell0 {w : World} {p : Option Addr} {c : Nat} {x y : ByteArray} (h : WS w (.slice p 2 c) [x, y]) : ∃ g off, p = some ⟨g, off, none⟩ ∧ w.cell? ⟨g, off, none⟩ = some (.string x) := by
  obtain ⟨q, d, e, hc⟩ := h.strs.form
  injection e with e1 e2 e3
  subst e1
  obtain ⟨g, off, hp, h0⟩ := hc 0 (Nat.zero_lt_two)
  exact ⟨g, off, hp, h0⟩
end Go.Proofs.YtilpbjcbffbjeaaDoor
