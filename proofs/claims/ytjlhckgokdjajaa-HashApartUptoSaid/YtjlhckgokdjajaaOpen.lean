/- What a row's proof needs of its arguments: a slice of strings opened, and what the bound on the bulk says of strings, of their sum and of slices. No function of the program in sight. -/
import Derived.Test.YtjlhckgokdjajaaRows
import Derived.Test.YtjlhckgokdjajaaStrs
import Derived.SliceStrings
import Derived.OpenShut
import Derived.ShutString
import Derived.ProofKit
namespace Go.Proofs.Ytjlhckgokdjajaa
open Go.ChangeShapes Go.WideShapes Go.ChangeAt Go.RowKit
theorem bulk_all_append {H : Type} (l r : List (DataW H)) : Rows.uptoBulkAll (l ++ r) = Rows.uptoBulkAll l + Rows.uptoBulkAll r := by
  induction l with
  | nil => simp [Rows.uptoBulkAll]
  | cons x l ih => simp only [List.cons_append, Rows.uptoBulkAll, ih]; omega
theorem bulk_str {H : Type} (s : ByteArray) : Rows.uptoBulk (DataW.lit (H := H) (.string s.data.toList)) = s.size + 1 := by
  have e : s.data.toList.length = s.size := by rw [Array.length_toList]; rfl
  simp only [Rows.uptoBulk]; omega
theorem bulk_strs {H : Type} (ss : List ByteArray) : Rows.uptoBulkAll (strs (H := H) ss) = (cat ss).length + ss.length := by
  induction ss with
  | nil => rfl
  | cons s ss ih =>
    show Rows.uptoBulk (DataW.lit (H := H) (.string s.data.toList)) + Rows.uptoBulkAll (strs (H := H) ss) = _
    rw [ih, bulk_str, cat_cons, List.length_append, length_bs, List.length_cons]; omega
theorem bulk_lits {H : Type} (k : IntKind) (zs : List Int) : Rows.uptoBulkAll (lits (H := H) k zs) = zs.length := by
  induction zs with
  | nil => rfl
  | cons z zs ih =>
    show Rows.uptoBulk (DataW.lit (H := H) (.int k z)) + Rows.uptoBulkAll (lits (H := H) k zs) = _
    rw [ih, List.length_cons]
    simp only [Rows.uptoBulk]; omega
section
variable {H : Type} {enc : TypeId × Value → H} {P : Program} {w : World} {base : Nat} {t e : TypeId} {v : Value} {x : DataW H × List MemPlace} {fuel : Nat}
/-- A slice of strings that came in: its strings, and their bulk. -/
theorem open_strs1 (ht : P.underlying t = some (.slice e)) (he : P.underlying e = some .string) (hc : P.cellsOf e = 1)
    (h : DataW.trod enc P w base (fun _ => true) true fuel t [v] = some x) : ∃ ss, Strs w v ss ∧ (cat ss).length + ss.length ≤ Rows.uptoBulk x.1 := by
  rcases open_strings ht he hc h with ⟨hcs, hx⟩ | ⟨a, len, cap, ss, hcs, _, hl, hm, hz, hx, hcell, hws⟩
  · simp at hcs
    subst hcs
    refine ⟨[], Strs.mk (ss := []) (fun i hi => absurd hi (Nat.not_lt_zero _)), by simp [cat_nil]⟩
  · simp at hcs
    subst hcs
    simp only [if_true] at hz
    have hlen : (ss.take len).length = len := by rw [List.length_take]; omega
    have hst : Strs w (.slice (some a) (ss.take len).length cap) (ss.take len) := Strs.mk fun i hi => by
      rw [hlen] at hi
      obtain ⟨b, off, spot⟩ := a
      have hc0 := hcell i (by omega)
      have hc1 := hcell 0 (by omega)
      have hspot : spot = none := by simpa [Addr.add] using World.cell?_spot hc1
      subst hspot
      rw [add_plain] at hc0
      refine ⟨b, off, rfl, ?_⟩
      rw [hc0, List.getD_eq_getElem?_getD, List.getD_eq_getElem?_getD, List.getElem?_take, if_pos hi]
    rw [hlen] at hst
    refine ⟨ss.take len, hst, ?_⟩
    rw [hx]
    simp only [Rows.uptoBulk, bulk_strs]
    omega
/-- A slice of ints that came in. -/
theorem open_ints1 (ht : P.underlying t = some (.slice e)) (he : P.underlying e = some (.int .i64)) (hc : P.cellsOf e = 1)
    (h : DataW.trod enc P w base (fun _ => true) true fuel t [v] = some x) : ∃ zs, Ints w v zs ∧ zs.length ≤ Rows.uptoBulk x.1 := by
  rcases open_ints ht he hc h with ⟨hcs, hx⟩ | ⟨a, len, cap, zs, hcs, _, hl, hm, hz, hx, hcell, hws⟩
  · simp at hcs
    subst hcs
    refine ⟨[], Ints.mk (zs := []) (fun i hi => absurd hi (Nat.not_lt_zero _)), by simp⟩
  · simp at hcs
    subst hcs
    simp only [if_true] at hz
    have hlen : (zs.take len).length = len := by rw [List.length_take]; omega
    have hst : Ints w (.slice (some a) (zs.take len).length cap) (zs.take len) := Ints.mk fun i hi => by
      rw [hlen] at hi
      obtain ⟨b, off, spot⟩ := a
      have hc0 := hcell i (by omega)
      have hc1 := hcell 0 (by omega)
      have hspot : spot = none := by simpa [Addr.add] using World.cell?_spot hc1
      subst hspot
      rw [add_plain] at hc0
      refine ⟨b, off, rfl, ?_⟩
      rw [hc0, List.getD_eq_getElem?_getD, List.getD_eq_getElem?_getD, List.getElem?_take, if_pos hi]
    rw [hlen] at hst
    refine ⟨zs.take len, hst, ?_⟩
    rw [hx]
    simp only [Rows.uptoBulk, bulk_lits]
    omega
theorem open_strs {a0 : Option Addr} {len cap : Nat} (ht : P.underlying t = some (.slice e)) (he : P.underlying e = some .string) (hc : P.cellsOf e = 1)
    (hv : v = .slice a0 len cap) (h : DataW.trod enc P w base (fun _ => true) true fuel t v.cells.toList = some x) :
    ∃ ss, Strs w v ss ∧ (cat ss).length + ss.length ≤ Rows.uptoBulk x.1 := by
  refine open_strs1 (enc := enc) (base := base) (fuel := fuel) ht he hc ?_
  subst hv
  simpa [Value.cells] using h
end
end Go.Proofs.Ytjlhckgokdjajaa
