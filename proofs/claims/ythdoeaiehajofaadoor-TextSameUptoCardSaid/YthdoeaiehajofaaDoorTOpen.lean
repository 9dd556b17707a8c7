/- What a row's proof needs of its arguments: slices of ints opened; the bound on the bulk. -/
import Derived.Test.YthdoeaiehajofaaDoorTGlob
import Derived.Test.YthdoeaiehajofaaDoorStrs
import Derived.SliceStrings
import Derived.ShutString
import Derived.ChangeArms
import Derived.Carry
import Derived.Deep.Slices
import Derived.Lib.SmallJoins
namespace Go.Proofs.YthdoeaiehajofaaDoor
open Go.ChangeShapes Go.WideShapes Go.ChangeAt Go.RowKit Go.Deep
theorem bulk_lits {H : Type} (k : IntKind) (zs : List Int) : Rows.uptoBulkAll (lits (H := H) k zs) = zs.length := by
  induction zs with
  | nil => rfl
  | cons z zs ih =>
    show Rows.uptoBulk (DataW.lit (H := H) (.int k z)) + Rows.uptoBulkAll (lits (H := H) k zs) = _
    rw [ih, List.length_cons]
    simp only [Rows.uptoBulk]; omega
section
variable {H : Type} {enc : TypeId × Value → H} {P : Program} {w : World} {base : Nat} {t e : TypeId} {v : Value} {x : DataW H × List MemPlace} {fuel : Nat}
/-- A slice of ints that came in. -/
theorem open_ints1 (ht : P.underlying t = some (.slice e)) (he : P.underlying e = some (.int .i64)) (hc : P.cellsOf e = 1)
    (h : DataW.trod enc P w base (fun _ => true) true fuel t [v] = some x) : ∃ zs, Ints w v zs ∧ zs.length ≤ Rows.uptoBulk x.1 := by
  rcases open_ints ht he hc h with ⟨hcs, hx⟩ | ⟨a, len, cap, zs, hcs, _, hl, hm, hz, hx, hcell, hws⟩
  · simp at hcs
    subst hcs
    refine ⟨[], Ints.mk (zs := []) (fun i hi => absurd hi (Nat.not_lt_zero _)), by simp⟩
  · simp at hcs
    subst hcs
    simp only [if_true] at hz
    have hlen : (zs.take len).length = len := by rw [List.length_take]; omega
    have hst : Ints w (.slice (some a) (zs.take len).length cap) (zs.take len) := Ints.mk fun i hi => by
      rw [hlen] at hi
      obtain ⟨b, off, spot⟩ := a
      have hc0 := hcell i (by omega)
      have hc1 := hcell 0 (by omega)
      have hspot : spot = none := by simpa [Addr.add] using World.cell?_spot hc1
      subst hspot
      rw [add_plain] at hc0
      refine ⟨b, off, rfl, ?_⟩
      rw [hc0, List.getD_eq_getElem?_getD, List.getD_eq_getElem?_getD, List.getElem?_take, if_pos hi]
    rw [hlen] at hst
    refine ⟨zs.take len, hst, ?_⟩
    rw [hx]
    simp only [Rows.uptoBulk, bulk_lits]
    omega
end
end Go.Proofs.YthdoeaiehajofaaDoor
