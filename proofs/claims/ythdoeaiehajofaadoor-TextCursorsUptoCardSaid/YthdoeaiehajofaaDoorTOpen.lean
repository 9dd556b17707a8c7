/- What a row's proof needs of its arguments: slices of ints opened; the bound on the bulk. -/
import Derived.Test.YthdoeaiehajofaaDoorTGlob
import Derived.Test.YthdoeaiehajofaaDoorStrs
import Derived.SliceStrings
import Derived.ShutString
import Derived.ChangeArms
import Derived.Carry
import Derived.Deep.Slices
import Derived.Lib.SmallJoins
namespace Go.Proofs.YthdoeaiehajofaaDoor
open Go.ChangeShapes Go.WideShapes Go.ChangeAt Go.RowKit Go.Deep
theorem bulk_lits {H : Type} (k : IntKind) (zs : List Int) : Rows.uptoBulkAll (lits (H := H) k zs) = zs.length := by
  induction zs with
  | nil => rfl
  | cons z zs ih =>
    show Rows.uptoBulk (DataW.lit (H := H) (.int k z)) + Rows.uptoBulkAll (lits (H := H) k zs) = _
    rw [ih, List.length_cons]
    simp only [Rows.uptoBulk]; omega
theorem wf_in {z : Int} (h : (Lit.int .i64 z).wf = true) : -9223372036854775808 ≤ z ∧ z ≤ 9223372036854775807 := by
  simp [Lit.wf] at h
  have e : IntKind.i64.min = -9223372036854775808 := rfl
  rw [e] at h
  exact h
section
variable {H : Type} {enc : TypeId × Value → H} {P : Program} {w : World} {base : Nat} {t e : TypeId} {v : Value} {x : DataW H × List MemPlace} {fuel : Nat}
/-- A slice of ints that came in. -/
theorem open_ints1 (ht : P.underlying t = some (.slice e)) (he : P.underlying e = some (.int .i64)) (hc : P.cellsOf e = 1)
    (h : DataW.trod enc P w base (fun _ => true) true fuel t [v] = some x) : ∃ zs, Ints w v zs ∧ zs.length ≤ Rows.uptoBulk x.1 ∧ (v = .slice none 0 0 ∨ ∃ b n c, v = .slice (some b) n c) ∧ ∀ i, -9223372036854775808 ≤ zs.getD i 0 ∧ zs.getD i 0 ≤ 9223372036854775807 := by
  rcases open_ints ht he hc h with ⟨hcs, hx⟩ | ⟨a, len, cap, zs, hcs, _, hl, hm, hz, hx, hcell, hws⟩
  · simp at hcs
    subst hcs
    exact ⟨[], Ints.mk (zs := []) (fun i hi => absurd hi (Nat.not_lt_zero _)), by simp, .inl rfl, fun i => by simp⟩
  · simp at hcs
    subst hcs
    simp only [if_true] at hz
    have hlen : (zs.take len).length = len := by rw [List.length_take]; omega
    have hst : Ints w (.slice (some a) (zs.take len).length cap) (zs.take len) := Ints.mk fun i hi => by
      rw [hlen] at hi
      obtain ⟨b, off, spot⟩ := a
      have hc0 := hcell i (by omega)
      have hc1 := hcell 0 (by omega)
      have hspot : spot = none := by simpa [Addr.add] using World.cell?_spot hc1
      subst hspot
      rw [add_plain] at hc0
      refine ⟨b, off, rfl, ?_⟩
      rw [hc0, List.getD_eq_getElem?_getD, List.getD_eq_getElem?_getD, List.getElem?_take, if_pos hi]
    rw [hlen] at hst
    refine ⟨zs.take len, hst, ?_, .inr ⟨a, _, _, rfl⟩, fun i => ?_⟩
    · rw [hx]
      simp only [Rows.uptoBulk, bulk_lits]
      omega
    · rw [List.getD_eq_getElem?_getD]
      cases e : (zs.take len)[i]? with
      | none => simp
      | some z =>
        have hm' := hws z (List.mem_of_mem_take (List.mem_of_getElem? e))
        exact wf_in hm'
end
/-! ### slices of calls on cursors -/
structure Opc where
  on : Int
  kind : Int
  n : Int
def Opc.zero : Opc := ⟨0, 0, 0⟩
def OpAt (w : World) (b off : Nat) (o : Opc) : Prop :=
  w.cell? ⟨b, off, none⟩ = some (.int .i64 o.on) ∧ w.cell? ⟨b, off + 1, none⟩ = some (.int .i64 o.kind) ∧ w.cell? ⟨b, off + 2, none⟩ = some (.int .i64 o.n)
def Ops (w : World) (v : Value) (os : List Opc) : Prop :=
  ∃ p cap, v = .slice p os.length cap ∧ ∀ i, i < os.length → ∃ b off, p = some ⟨b, off, none⟩ ∧ OpAt w b (off + i * 3) (os.getD i Opc.zero)
def Opc.ok (o : Opc) : Prop := (-9223372036854775808 ≤ o.on ∧ o.on ≤ 9223372036854775807) ∧ (-9223372036854775808 ≤ o.kind ∧ o.kind ≤ 9223372036854775807) ∧ (-9223372036854775808 ≤ o.n ∧ o.n ≤ 9223372036854775807)
theorem bulk_pos {H : Type} (d : DataW H) : 1 ≤ Rows.uptoBulk d := by
  cases d with
  | lit l => cases l <;> simp only [Rows.uptoBulk] <;> omega
  | nil => simp only [Rows.uptoBulk]; omega
  | ptr d => simp only [Rows.uptoBulk]; omega
  | slice a b => simp only [Rows.uptoBulk]; omega
  | agg a => simp only [Rows.uptoBulk]; omega
  | iface a b => simp only [Rows.uptoBulk]; omega
  | map a => simp only [Rows.uptoBulk]; omega
  | held a => simp only [Rows.uptoBulk]; omega
theorem bulk_len {H : Type} (l : List (DataW H)) : l.length ≤ Rows.uptoBulkAll l := by
  induction l with
  | nil => exact Nat.zero_le _
  | cons d l ih => have := bulk_pos d; simp only [Rows.uptoBulkAll, List.length_cons]; omega
instance : Inhabited Opc := ⟨Opc.zero⟩
theorem list3 {α : Type} (l : List α) (h : l.length = 3) : ∃ a b c, l = [a, b, c] := by
  match l, h with
  | [a, b, c], _ => exact ⟨a, b, c, rfl⟩
theorem choose_lt {α : Type} [Inhabited α] {n : Nat} {p : Nat → α → Prop} (h : ∀ i, i < n → ∃ a, p i a) : ∃ f : Nat → α, ∀ i, i < n → p i (f i) :=
  ⟨fun i => if hi : i < n then (h i hi).choose else default, fun i hi => by simp only [dif_pos hi]; exact (h i hi).choose_spec⟩
section
variable {H : Type} {enc : TypeId × Value → H} {w : World} {base : Nat} {v : Value} {x : DataW H × List MemPlace} {fuel : Nat}
theorem open_ops (h : DataW.trod enc Tryd.prog w base (fun _ => true) true fuel 46 [v] = some x) : ∃ os, Ops w v os ∧ os.length ≤ Rows.uptoBulk x.1 ∧ ∀ i, (os.getD i Opc.zero).ok := by
  have hz : Opc.zero.ok := ⟨by decide, by decide, by decide⟩
  rcases open_slice Tryd.underlying46 h with ⟨hcs, hx⟩ | ⟨a, len, cap, m, n, D, Pl, hcs, _, hl, hm, hmm, hx, hi⟩
  · simp at hcs
    subst hcs
    exact ⟨[], ⟨none, 0, rfl, fun i hi => absurd hi (Nat.not_lt_zero _)⟩, Nat.zero_le _, fun i => by simpa using hz⟩
  · simp at hcs
    subst hcs
    simp only [if_true] at hmm
    subst hmm
    obtain ⟨b, off, spot⟩ := a
    have ce : Tryd.prog.cellsOf 53 = 3 := by kernel_rfl
    rw [ce] at hi
    by_cases hz0 : len = 0
    · subst hz0
      exact ⟨[], ⟨_, _, rfl, fun i hi => absurd hi (Nat.not_lt_zero _)⟩, Nat.zero_le _, fun i => by simpa using hz⟩
    have hspot : spot = none := by
      obtain ⟨cs', h1, _⟩ := hi 0 (by omega)
      obtain ⟨_, hlen, hcell⟩ := World.cells?_some h1
      have := hcell 0 (by omega)
      rw [List.getElem?_eq_getElem (by omega)] at this
      simpa [Addr.add] using World.cell?_spot this
    subst hspot
    have each : ∀ i, i < len → ∃ o : Opc, OpAt w b (off + i * 3) o ∧ o.ok := by
      intro i hil
      obtain ⟨cs', h1, h2⟩ := hi i (by omega)
      obtain ⟨_, hlen, hcell⟩ := World.cells?_some h1
      obtain ⟨xs, k, hk, hxy, _, hxl, hf⟩ := DataW.trod_struct Tryd.underlying53 h2
      obtain ⟨y0, y1, y2, rfl⟩ := list3 xs hxl
      obtain ⟨v0, v1, v2, rfl⟩ := list3 cs' hlen
      have k3 : Tryd.prog.cellsOf 3 = 1 := by kernel_rfl
      have g0 : DataW.trod enc Tryd.prog w base (fun _ => true) true k 3 (([v0, v1, v2].drop 0).take (Tryd.prog.cellsOf 3)) = [y0, y1, y2][0]? := hf 0 _ rfl
      rw [k3] at g0
      replace g0 : DataW.trod enc Tryd.prog w base (fun _ => true) true k 3 [v0] = some y0 := g0
      have g1 : DataW.trod enc Tryd.prog w base (fun _ => true) true k 3 (([v0, v1, v2].drop 1).take (Tryd.prog.cellsOf 3)) = [y0, y1, y2][1]? := hf 1 _ rfl
      rw [k3] at g1
      replace g1 : DataW.trod enc Tryd.prog w base (fun _ => true) true k 3 [v1] = some y1 := g1
      have g2 : DataW.trod enc Tryd.prog w base (fun _ => true) true k 3 (([v0, v1, v2].drop 2).take (Tryd.prog.cellsOf 3)) = [y0, y1, y2][2]? := hf 2 _ rfl
      rw [k3] at g2
      replace g2 : DataW.trod enc Tryd.prog w base (fun _ => true) true k 3 [v2] = some y2 := g2
      obtain ⟨z0, e0, _, f0⟩ := DataW.trod_int Tryd.underlying3 g0
      obtain ⟨z1, e1, _, f1⟩ := DataW.trod_int Tryd.underlying3 g1
      obtain ⟨z2, e2, _, f2⟩ := DataW.trod_int Tryd.underlying3 g2
      simp only [List.cons.injEq, and_true] at e0 e1 e2
      subst e0 e1 e2
      simp only [add_plain, Prod.mk.injEq] at hcell hxy
      exact ⟨⟨z0, z1, z2⟩, ⟨hcell 0 (by omega), hcell 1 (by omega), hcell 2 (by omega)⟩, wf_in f0, wf_in f1, wf_in f2⟩
    obtain ⟨O, hO⟩ := choose_lt (α := Opc) each
    have hlen : ((List.range len).map O).length = len := by rw [List.length_map, List.length_range]
    have hgd : ∀ i, i < len → ((List.range len).map O).getD i Opc.zero = O i := fun i hi => by rw [List.getD_eq_getElem?_getD, List.getElem?_map, List.getElem?_range hi]; rfl
    have hge : ∀ i, ¬ i < len → ((List.range len).map O).getD i Opc.zero = Opc.zero := fun i hi => by rw [List.getD_eq_getElem?_getD, List.getElem?_eq_none (by rw [hlen]; omega)]; rfl
    refine ⟨(List.range len).map O, ⟨some ⟨b, off, none⟩, m, by rw [hlen], fun i hi => ?_⟩, ?_, fun i => ?_⟩
    · rw [hlen] at hi
      rw [hgd i hi]
      exact ⟨b, off, rfl, (hO i hi).1⟩
    · rw [hlen, hx]
      have := bulk_len ((List.range len).map D)
      rw [List.length_map, List.length_range] at this
      simp only [Rows.uptoBulk]; omega
    · by_cases hi : i < len
      · rw [hgd i hi]; exact (hO i hi).2
      · rw [hge i hi]; exact hz
end
end Go.Proofs.YthdoeaiehajofaaDoor
