/- A slice of calls on logs that came in, opened. -/
import Derived.Test.YtamaefnlicloaaaDoorDOpen
import Derived.Test.YtamaefnlicloaaaDoorWOps
namespace Go.Proofs.YtamaefnlicloaaaDoor
set_option linter.unusedVariables false
open Go.ChangeShapes Go.WideShapes Go.ChangeAt Go.RowKit Go.Deep
theorem list5 {α : Type} (l : List α) (h : l.length = 5) : ∃ a b c d e, l = [a, b, c, d, e] := by
  match l, h with
  | [a, b, c, d, e], _ => exact ⟨a, b, c, d, e, rfl⟩
section
variable {H : Type} {enc : TypeId × Value → H} {w : World} {base : Nat} {v : Value} {x : DataW H × List MemPlace} {fuel : Nat}
/-- A slice of calls that came in. -/
theorem open_wops (h : DataW.trod enc Tryd.prog w base (fun _ => true) true fuel 47 [v] = some x) : ∃ os, WOps w v os ∧ os.length ≤ Rows.uptoBulk x.1 ∧ (∀ i, (os.getD i Opv.zero).s.size ≤ Rows.uptoBulk x.1) ∧
    (∀ i, (os.getD i Opv.zero).ch.length ≤ Rows.uptoBulk x.1) ∧ (∀ i j, ((os.getD i Opv.zero).ch.getD j []).length ≤ Rows.uptoBulk x.1) ∧ ∀ i, (os.getD i Opv.zero).n ≤ 9223372036854775807 := by
  rcases open_slice Tryd.underlying47 h with ⟨hcs, hx⟩ | ⟨a, len, cap, m, n, D, Pl, hcs, _, hl, hm, hmm, hx, hi⟩
  · simp at hcs
    subst hcs
    exact ⟨[], ⟨none, 0, rfl, fun i hi => absurd hi (Nat.not_lt_zero _)⟩, Nat.zero_le _, fun i => Nat.zero_le _, fun i => Nat.zero_le _, fun i j => Nat.zero_le _, fun i => by show (0 : Int) ≤ _; omega⟩
  · simp at hcs
    subst hcs
    simp only [if_true] at hmm
    subst hmm
    obtain ⟨b, off, spot⟩ := a
    have ce : Tryd.prog.cellsOf 51 = 5 := by kernel_rfl
    rw [ce] at hi
    by_cases hz : len = 0
    · subst hz
      exact ⟨[], ⟨_, _, rfl, fun i hi => absurd hi (Nat.not_lt_zero _)⟩, Nat.zero_le _, fun i => Nat.zero_le _, fun i => Nat.zero_le _, fun i j => Nat.zero_le _, fun i => by show (0 : Int) ≤ _; omega⟩
    have hspot : spot = none := by
      obtain ⟨cs', h1, _⟩ := hi 0 (by omega)
      obtain ⟨_, hlen, hcell⟩ := World.cells?_some h1
      have := hcell 0 (by omega)
      rw [List.getElem?_eq_getElem (by omega)] at this
      simpa [Addr.add] using World.cell?_spot this
    subst hspot
    have each : ∀ i, i < len → ∃ o : Opv, WOpAt w b (off + i * 5) o ∧ o.s.size ≤ Rows.uptoBulk (D i) ∧ o.ch.length ≤ Rows.uptoBulk (D i) ∧ (∀ j, (o.ch.getD j []).length ≤ Rows.uptoBulk (D i)) ∧ o.n ≤ 9223372036854775807 := by
      intro i hil
      obtain ⟨cs', h1, h2⟩ := hi i (by omega)
      obtain ⟨_, hlen, hcell⟩ := World.cells?_some h1
      obtain ⟨xs, k, hk, hxy, _, hxl, hf⟩ := DataW.trod_struct Tryd.underlying51 h2
      obtain ⟨y0, y1, y3, y4, y5, rfl⟩ := list5 xs hxl
      obtain ⟨v0, v1, v3, v4, v5, rfl⟩ := list5 cs' hlen
      have k3 : Tryd.prog.cellsOf 3 = 1 := by kernel_rfl
      have k9 : Tryd.prog.cellsOf 9 = 1 := by kernel_rfl
      have k24 : Tryd.prog.cellsOf 48 = 1 := by kernel_rfl
      have g0 : DataW.trod enc Tryd.prog w base (fun _ => true) true k 3 (([v0, v1, v3, v4, v5].drop 0).take (Tryd.prog.cellsOf 3)) = [y0, y1, y3, y4, y5][0]? := hf 0 _ rfl
      rw [k3] at g0
      replace g0 : DataW.trod enc Tryd.prog w base (fun _ => true) true k 3 [v0] = some y0 := g0
      have g1 : DataW.trod enc Tryd.prog w base (fun _ => true) true k 3 (([v0, v1, v3, v4, v5].drop 1).take (Tryd.prog.cellsOf 3)) = [y0, y1, y3, y4, y5][1]? := hf 1 _ rfl
      rw [k3] at g1
      replace g1 : DataW.trod enc Tryd.prog w base (fun _ => true) true k 3 [v1] = some y1 := g1
      have g3 : DataW.trod enc Tryd.prog w base (fun _ => true) true k 3 (([v0, v1, v3, v4, v5].drop 2).take (Tryd.prog.cellsOf 3)) = [y0, y1, y3, y4, y5][2]? := hf 2 _ rfl
      rw [k3] at g3
      replace g3 : DataW.trod enc Tryd.prog w base (fun _ => true) true k 3 [v3] = some y3 := g3
      have g4 : DataW.trod enc Tryd.prog w base (fun _ => true) true k 9 (([v0, v1, v3, v4, v5].drop 3).take (Tryd.prog.cellsOf 9)) = [y0, y1, y3, y4, y5][3]? := hf 3 _ rfl
      rw [k9] at g4
      replace g4 : DataW.trod enc Tryd.prog w base (fun _ => true) true k 9 [v4] = some y4 := g4
      have g5 : DataW.trod enc Tryd.prog w base (fun _ => true) true k 48 (([v0, v1, v3, v4, v5].drop 4).take (Tryd.prog.cellsOf 48)) = [y0, y1, y3, y4, y5][4]? := hf 4 _ rfl
      rw [k24] at g5
      replace g5 : DataW.trod enc Tryd.prog w base (fun _ => true) true k 48 [v5] = some y5 := g5
      obtain ⟨z0, e0, _, _⟩ := DataW.trod_int Tryd.underlying3 g0
      obtain ⟨z1, e1, _, _⟩ := DataW.trod_int Tryd.underlying3 g1
      obtain ⟨z3, e3, _, wf3⟩ := DataW.trod_int Tryd.underlying3 g3
      obtain ⟨z4, e4, x4, _⟩ := DataW.trod_string Tryd.underlying9 g4
      obtain ⟨css, hr, hr1, hr2⟩ := open_rss g5
      simp only [List.cons.injEq, and_true] at e0 e1 e3 e4
      subst e0 e1 e3 e4
      simp only [add_plain, Prod.mk.injEq] at hcell hxy
      have hD := hxy.1
      have hb0 : Rows.uptoBulk y4.1 ≤ Rows.uptoBulk (D i) := by
        rw [hD]
        have := bulk_mem (H := H) (l := List.map (fun x => x.fst) [y0, y1, y3, y4, y5]) (d := y4.1) (by simp)
        simp only [Rows.uptoBulk]; omega
      have hb1 : Rows.uptoBulk y5.1 ≤ Rows.uptoBulk (D i) := by
        rw [hD]
        have := bulk_mem (H := H) (l := List.map (fun x => x.fst) [y0, y1, y3, y4, y5]) (d := y5.1) (by simp)
        simp only [Rows.uptoBulk]; omega
      have hb2 : z4.size ≤ Rows.uptoBulk y4.1 := by rw [x4]; have := bulk_str (H := H) z4; show _ ≤ Rows.uptoBulk (DataW.lit (H := H) (.string z4.data.toList)); omega
      refine ⟨⟨z0, z1, 0, z3, z4, css⟩, ⟨?_, ?_, ?_, ?_, v5, ?_, hr⟩, by dsimp only; omega, by dsimp only; omega, fun j => by have := hr2 j; dsimp only; omega, wf_le wf3⟩
      · exact hcell 0 (by omega)
      · exact hcell 1 (by omega)
      · exact hcell 2 (by omega)
      · exact hcell 3 (by omega)
      · exact hcell 4 (by omega)
    obtain ⟨O, hO⟩ := choose_lt (α := Opv) each
    have hlen : ((List.range len).map O).length = len := by rw [List.length_map, List.length_range]
    have hgd : ∀ i, i < len → ((List.range len).map O).getD i Opv.zero = O i := fun i hi => by rw [List.getD_eq_getElem?_getD, List.getElem?_map, List.getElem?_range hi]; rfl
    have hge : ∀ i, ¬ i < len → ((List.range len).map O).getD i Opv.zero = Opv.zero := fun i hi => by rw [List.getD_eq_getElem?_getD, List.getElem?_eq_none (by rw [hlen]; omega)]; rfl
    have hbk : ∀ i, i < len → Rows.uptoBulk (D i) ≤ Rows.uptoBulk x.1 := fun i hi => by
      rw [hx]
      have := bulk_at D hi
      simp only [Rows.uptoBulk]; omega
    refine ⟨(List.range len).map O, ⟨some ⟨b, off, none⟩, m, by rw [hlen], fun i hi => ?_⟩, ?_, fun i => ?_, fun i => ?_, fun i j => ?_, fun i => ?_⟩
    · rw [hlen] at hi
      rw [hgd i hi]
      exact ⟨b, off, rfl, (hO i hi).1⟩
    · rw [hlen, hx]
      have := bulk_len ((List.range len).map D)
      rw [List.length_map, List.length_range] at this
      simp only [Rows.uptoBulk]; omega
    · by_cases hi : i < len
      · rw [hgd i hi]; exact Nat.le_trans (hO i hi).2.1 (hbk i hi)
      · rw [hge i hi]; exact Nat.zero_le _
    · by_cases hi : i < len
      · rw [hgd i hi]; exact Nat.le_trans (hO i hi).2.2.1 (hbk i hi)
      · rw [hge i hi]; exact Nat.zero_le _
    · by_cases hi : i < len
      · rw [hgd i hi]; exact Nat.le_trans ((hO i hi).2.2.2.1 j) (hbk i hi)
      · rw [hge i hi]; exact Nat.zero_le _
    · by_cases hi : i < len
      · rw [hgd i hi]; exact (hO i hi).2.2.2.2
      · rw [hge i hi]; show (0 : Int) ≤ _; omega
end
end Go.Proofs.YtamaefnlicloaaaDoor
