/- Slices of calls on logs, in memory. -/
import Derived.Test.YtamaefnlicloaaaDoorDMade
namespace Go.Proofs.YtamaefnlicloaaaDoor
set_option linter.unusedVariables false
open Go.RowKit
/-- The value of a slice of calls (a call's file is not used). -/
def WOpAt (w : World) (b off : Nat) (o : Opv) : Prop :=
  w.cell? ⟨b, off, none⟩ = some (.int .i64 o.on) ∧ w.cell? ⟨b, off + 1, none⟩ = some (.int .i64 o.kind) ∧ w.cell? ⟨b, off + 2, none⟩ = some (.int .i64 o.n) ∧
    w.cell? ⟨b, off + 3, none⟩ = some (.string o.s) ∧ ∃ cv, w.cell? ⟨b, off + 4, none⟩ = some cv ∧ Rss w cv o.ch
def WOps (w : World) (v : Value) (os : List Opv) : Prop :=
  ∃ p cap, v = .slice p os.length cap ∧ ∀ i, i < os.length → ∃ b off, p = some ⟨b, off, none⟩ ∧ WOpAt w b (off + i * 5) (os.getD i Opv.zero)
theorem WOpAt.below {w w' : World} {b off : Nat} {o : Opv} (h : WOpAt w b off o) (hb : Below w.heap.size w w') : WOpAt w' b off o := by
  obtain ⟨h0, h1, h3, h4, cv, h5, h6⟩ := h
  have k := fun (a : Addr) (v : Value) (hc : w.cell? a = some v) => (hb.cell (block_lt_of_cell hc)).trans hc
  exact ⟨k _ _ h0, k _ _ h1, k _ _ h3, k _ _ h4, cv, k _ _ h5, h6.below hb⟩
theorem WOps.below {w w' : World} {v : Value} {os : List Opv} (h : WOps w v os) (hb : Below w.heap.size w w') : WOps w' v os := by
  obtain ⟨p, cap, rfl, hc⟩ := h
  exact ⟨p, cap, rfl, fun i hi => by obtain ⟨b, off, hp, ho⟩ := hc i hi; exact ⟨b, off, hp, ho.below hb⟩⟩
theorem WOps.at {w : World} {v : Value} {os : List Opv} (h : WOps w v os) {p : Option Addr} {n c : Nat} (hv : v = .slice p n c) {i : Nat} (hi : i < os.length) : ∃ b off, p = some ⟨b, off, none⟩ ∧ WOpAt w b (off + i * 5) (os.getD i Opv.zero) := by
  obtain ⟨p', c', e, hc⟩ := h
  rw [hv] at e
  injection e with e1 e2 e3
  subst e1
  exact hc i hi
end Go.Proofs.YtamaefnlicloaaaDoor
