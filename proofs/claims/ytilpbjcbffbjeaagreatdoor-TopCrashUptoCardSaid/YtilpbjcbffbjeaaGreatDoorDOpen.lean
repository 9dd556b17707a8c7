/- What a row's proof needs of its arguments: slices of strings, of slices of ints and of calls opened, and what the bound on the bulk says of them. No function of the program in sight. -/
import Derived.Test.YtilpbjcbffbjeaaGreatDoorRows
import Derived.Test.YtilpbjcbffbjeaaGreatDoorPkD
import Derived.SliceStrings
import Derived.OpenShut
import Derived.ShutString
import Derived.ProofKit
import Derived.ChangeArms
import Derived.Deep.Slices
import Derived.Deep.Matrix
namespace Go.Proofs.YtilpbjcbffbjeaaGreatDoor
open Go.ChangeShapes Go.WideShapes Go.ChangeAt Go.RowKit Go.Deep
theorem bulk_all_append {H : Type} (l r : List (DataW H)) : Rows.uptoBulkAll (l ++ r) = Rows.uptoBulkAll l + Rows.uptoBulkAll r := by
  induction l with
  | nil => simp [Rows.uptoBulkAll]
  | cons x l ih => simp only [List.cons_append, Rows.uptoBulkAll, ih]; omega
theorem bulk_str {H : Type} (s : ByteArray) : Rows.uptoBulk (DataW.lit (H := H) (.string s.data.toList)) = s.size + 1 := by
  have e : s.data.toList.length = s.size := by rw [Array.length_toList]; rfl
  simp only [Rows.uptoBulk]; omega
theorem bulk_strs {H : Type} (ss : List ByteArray) : Rows.uptoBulkAll (strs (H := H) ss) = (cat ss).length + ss.length := by
  induction ss with
  | nil => rfl
  | cons s ss ih =>
    show Rows.uptoBulk (DataW.lit (H := H) (.string s.data.toList)) + Rows.uptoBulkAll (strs (H := H) ss) = _
    rw [ih, bulk_str, cat_cons, List.length_append, length_bs, List.length_cons]; omega
theorem bulk_lits {H : Type} (k : IntKind) (zs : List Int) : Rows.uptoBulkAll (lits (H := H) k zs) = zs.length := by
  induction zs with
  | nil => rfl
  | cons z zs ih =>
    show Rows.uptoBulk (DataW.lit (H := H) (.int k z)) + Rows.uptoBulkAll (lits (H := H) k zs) = _
    rw [ih, List.length_cons]
    simp only [Rows.uptoBulk]; omega
section
variable {H : Type} {enc : TypeId × Value → H} {P : Program} {w : World} {base : Nat} {t e : TypeId} {v : Value} {x : DataW H × List MemPlace} {fuel : Nat}
/-- A slice of strings that came in: its strings, and their bulk. -/
theorem open_strs1 (ht : P.underlying t = some (.slice e)) (he : P.underlying e = some .string) (hc : P.cellsOf e = 1)
    (h : DataW.trod enc P w base (fun _ => true) true fuel t [v] = some x) : ∃ ss, Strs w v ss ∧ (cat ss).length + ss.length ≤ Rows.uptoBulk x.1 := by
  rcases open_strings ht he hc h with ⟨hcs, hx⟩ | ⟨a, len, cap, ss, hcs, _, hl, hm, hz, hx, hcell, hws⟩
  · simp at hcs
    subst hcs
    refine ⟨[], Strs.mk (ss := []) (fun i hi => absurd hi (Nat.not_lt_zero _)), by simp [cat_nil]⟩
  · simp at hcs
    subst hcs
    simp only [if_true] at hz
    have hlen : (ss.take len).length = len := by rw [List.length_take]; omega
    have hst : Strs w (.slice (some a) (ss.take len).length cap) (ss.take len) := Strs.mk fun i hi => by
      rw [hlen] at hi
      obtain ⟨b, off, spot⟩ := a
      have hc0 := hcell i (by omega)
      have hc1 := hcell 0 (by omega)
      have hspot : spot = none := by simpa [Addr.add] using World.cell?_spot hc1
      subst hspot
      rw [add_plain] at hc0
      refine ⟨b, off, rfl, ?_⟩
      rw [hc0, List.getD_eq_getElem?_getD, List.getD_eq_getElem?_getD, List.getElem?_take, if_pos hi]
    rw [hlen] at hst
    refine ⟨ss.take len, hst, ?_⟩
    rw [hx]
    simp only [Rows.uptoBulk, bulk_strs]
    omega
/-- A slice of ints that came in. -/
theorem open_ints1 (ht : P.underlying t = some (.slice e)) (he : P.underlying e = some (.int .i64)) (hc : P.cellsOf e = 1)
    (h : DataW.trod enc P w base (fun _ => true) true fuel t [v] = some x) : ∃ zs, Ints w v zs ∧ zs.length ≤ Rows.uptoBulk x.1 := by
  rcases open_ints ht he hc h with ⟨hcs, hx⟩ | ⟨a, len, cap, zs, hcs, _, hl, hm, hz, hx, hcell, hws⟩
  · simp at hcs
    subst hcs
    refine ⟨[], Ints.mk (zs := []) (fun i hi => absurd hi (Nat.not_lt_zero _)), by simp⟩
  · simp at hcs
    subst hcs
    simp only [if_true] at hz
    have hlen : (zs.take len).length = len := by rw [List.length_take]; omega
    have hst : Ints w (.slice (some a) (zs.take len).length cap) (zs.take len) := Ints.mk fun i hi => by
      rw [hlen] at hi
      obtain ⟨b, off, spot⟩ := a
      have hc0 := hcell i (by omega)
      have hc1 := hcell 0 (by omega)
      have hspot : spot = none := by simpa [Addr.add] using World.cell?_spot hc1
      subst hspot
      rw [add_plain] at hc0
      refine ⟨b, off, rfl, ?_⟩
      rw [hc0, List.getD_eq_getElem?_getD, List.getD_eq_getElem?_getD, List.getElem?_take, if_pos hi]
    rw [hlen] at hst
    refine ⟨zs.take len, hst, ?_⟩
    rw [hx]
    simp only [Rows.uptoBulk, bulk_lits]
    omega
end
instance : Inhabited Opv := ⟨Opv.zero⟩
theorem list6 {α : Type} (l : List α) (h : l.length = 6) : ∃ a b c d e f, l = [a, b, c, d, e, f] := by
  match l, h with
  | [a, b, c, d, e, f], _ => exact ⟨a, b, c, d, e, f, rfl⟩
theorem bulk_pos {H : Type} (d : DataW H) : 1 ≤ Rows.uptoBulk d := by
  cases d with
  | lit l => cases l <;> simp only [Rows.uptoBulk] <;> omega
  | nil => simp only [Rows.uptoBulk]; omega
  | ptr d => simp only [Rows.uptoBulk]; omega
  | slice a b => simp only [Rows.uptoBulk]; omega
  | agg a => simp only [Rows.uptoBulk]; omega
  | iface a b => simp only [Rows.uptoBulk]; omega
  | map a => simp only [Rows.uptoBulk]; omega
  | held a => simp only [Rows.uptoBulk]; omega
theorem bulk_len {H : Type} (l : List (DataW H)) : l.length ≤ Rows.uptoBulkAll l := by
  induction l with
  | nil => exact Nat.zero_le _
  | cons d l ih => have := bulk_pos d; simp only [Rows.uptoBulkAll, List.length_cons]; omega
theorem bulk_mem {H : Type} {l : List (DataW H)} {d : DataW H} (h : d ∈ l) : Rows.uptoBulk d ≤ Rows.uptoBulkAll l := by
  induction l with
  | nil => cases h
  | cons e l ih =>
    simp only [Rows.uptoBulkAll]
    rcases List.mem_cons.1 h with rfl | h
    · omega
    · have := ih h; omega
theorem bulk_at {H : Type} (D : Nat → DataW H) {i n : Nat} (h : i < n) : Rows.uptoBulk (D i) ≤ Rows.uptoBulkAll ((List.range n).map D) := bulk_mem (List.mem_map.2 ⟨i, List.mem_range.2 h, rfl⟩)
theorem size_le_cat (ss : List ByteArray) (i : Nat) (h : i < ss.length) : (ss.getD i ⟨#[]⟩).size ≤ (cat ss).length := by
  induction ss generalizing i with
  | nil => exact absurd h (Nat.not_lt_zero _)
  | cons s ss ih =>
    rw [cat_cons, List.length_append, length_bs]
    cases i with
    | zero => show s.size ≤ _; omega
    | succ i => have := ih i (by simpa using h); show (ss.getD i ⟨#[]⟩).size ≤ _; omega
section
variable {H : Type} {enc : TypeId × Value → H} {w : World} {base : Nat} {v : Value} {x : DataW H × List MemPlace} {fuel : Nat}
/-- A slice of slices of ints that came in. -/
theorem open_rss (h : DataW.trod enc Tryz.prog w base (fun _ => true) true fuel 23 [v] = some x) : ∃ css, Rss w v css ∧ css.length ≤ Rows.uptoBulk x.1 ∧ ∀ i, (css.getD i []).length ≤ Rows.uptoBulk x.1 := by
  rcases open_int_rows Tryz.underlying23 Tryz.underlying34 Tryz.underlying3 (by kernel_rfl) (by kernel_rfl) h with ⟨hcs, hx⟩ | ⟨a, len, cap, A, L, C, Z, hcs, _, hl, hm, hx, hr⟩
  · simp at hcs
    subst hcs
    exact ⟨[], Rss.nil w, Nat.zero_le _, fun i => Nat.zero_le _⟩
  · simp at hcs
    subst hcs
    have hlen : ((List.range len).map fun r => (Z r).take (L r)).length = len := by rw [List.length_map, List.length_range]
    have hgd : ∀ i, i < len → ((List.range len).map fun r => (Z r).take (L r)).getD i [] = (Z i).take (L i) := fun i hi => by
      rw [List.getD_eq_getElem?_getD, List.getElem?_map, List.getElem?_range hi]; rfl
    refine ⟨(List.range len).map fun r => (Z r).take (L r), ?_, ?_, fun i => ?_⟩
    · refine ⟨some a, cap, by rw [hlen], fun i hi => ?_⟩
      rw [hlen] at hi
      obtain ⟨b, off, spot⟩ := a
      have hc0 := (hr i (by omega)).1
      have hspot : spot = none := by simpa [Addr.add] using World.cell?_spot (hr 0 (by omega)).1
      subst hspot
      rw [add_plain] at hc0
      refine ⟨b, off, _, rfl, hc0, ?_⟩
      rw [hgd i hi]
      obtain ⟨_, h1, h2, h3, h4, h5, h6⟩ := hr i (by omega)
      have hzl : ((Z i).take (L i)).length = L i := by rw [List.length_take]; omega
      have key : Ints w (.slice (A i) ((Z i).take (L i)).length (C i)) ((Z i).take (L i)) := Ints.mk fun j hj => by
        rw [hzl] at hj
        cases hA : A i with
        | none => have := h5 hA; omega
        | some a' =>
          obtain ⟨h7, h8⟩ := h6 a' hA
          obtain ⟨b', off', spot'⟩ := a'
          have hc1 := h8 j (by omega)
          have hspot' : spot' = none := by simpa [Addr.add] using World.cell?_spot (h8 0 (by omega))
          subst hspot'
          rw [add_plain] at hc1
          refine ⟨b', off', rfl, ?_⟩
          rw [hc1, List.getD_eq_getElem?_getD, List.getD_eq_getElem?_getD, List.getElem?_take, if_pos hj]
      rw [hzl] at key
      exact key
    · rw [hlen, hx]
      have := bulk_len ((List.range len).map fun r => intRow (H := H) .i64 (A r) (L r) (Z r))
      rw [List.length_map, List.length_range] at this
      simp only [Rows.uptoBulk]
      omega
    · by_cases hi : i < len
      · rw [hgd i hi, hx]
        have h1 := bulk_at (fun r => intRow (H := H) .i64 (A r) (L r) (Z r)) hi
        have h2 : ((Z i).take (L i)).length ≤ Rows.uptoBulk (intRow (H := H) .i64 (A i) (L i) (Z i)) := by
          unfold intRow
          cases hA : A i with
          | none =>
            obtain ⟨_, _, _, h3, _, h5, _⟩ := hr i (by omega)
            have := h5 hA
            rw [List.length_take]; omega
          | some a' => simp only [Rows.uptoBulk, bulk_lits]; omega
        simp only [Rows.uptoBulk]
        omega
      · rw [List.getD_eq_getElem?_getD, List.getElem?_eq_none (by rw [hlen]; omega)]
        exact Nat.zero_le _
theorem wf_le {z : Int} (h : (Lit.int .i64 z).wf = true) : z ≤ 9223372036854775807 := by
  simp [Lit.wf] at h
  have := IntKind.wrap_i64 z
  omega
end
end Go.Proofs.YtilpbjcbffbjeaaGreatDoor
