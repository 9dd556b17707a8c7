/- A call by value that came in, opened. -/
import Derived.Test.YtilpbjcbffbjeaaGreatDoorDOpen
namespace Go.Proofs.YtilpbjcbffbjeaaGreatDoor
set_option linter.unusedVariables false
set_option maxRecDepth 100000
open Go.ChangeShapes Go.WideShapes Go.ChangeAt Go.RowKit Go.Deep
theorem list5V {α : Type} (l : List α) (h : l.length = 5) : ∃ a b c d e, l = [a, b, c, d, e] := by
  match l, h with
  | [a, b, c, d, e], _ => exact ⟨a, b, c, d, e, rfl⟩
theorem array5 {α : Type} {cs : Array α} (h : cs.size = 5) : ∃ a b c d e, cs = #[a, b, c, d, e] := by
  obtain ⟨l⟩ := cs
  obtain ⟨a, b, c, d, e, rfl⟩ := list5V l h
  exact ⟨a, b, c, d, e, rfl⟩
section
variable {H : Type} {enc : TypeId × Value → H} {w : World} {base b0 : Nat} {v : Value} {d : DataW H} {p : List MemPlace} {r : Reach}
theorem open_wopV (hv : Value.okWide Tryz.prog w r b0 64 v) (h : DataW.Trod enc Tryz.prog w base (fun _ => true) true 64 v d p) :
    ∃ (z0 z1 z3 : Int) (z4 : ByteArray) (cv : Value) (css : List (List Int)), v = .agg #[.int .i64 z0, .int .i64 z1, .int .i64 z3, .string z4, cv] ∧ Rss w cv css ∧ css.length ≤ Rows.uptoBulk d ∧ (∀ j, (css.getD j []).length ≤ Rows.uptoBulk d) ∧ z3 ≤ 9223372036854775807 := by
  obtain ⟨cs, rfl, hsz⟩ := okWide_struct Tryz.underlying64 hv
  have ce : Tryz.prog.cellsOf 64 = 5 := by kernel_rfl
  rw [ce] at hsz
  obtain ⟨v0, v1, v3, v4, v5, rfl⟩ := array5 hsz
  obtain ⟨fuel, hf⟩ := h
  have hf' : DataW.trod enc Tryz.prog w base (fun _ => true) true fuel 64 [v0, v1, v3, v4, v5] = some (d, p) := by simpa [Value.cells] using hf
  obtain ⟨xs, k, hk, hxy, _, hxl, hg⟩ := DataW.trod_struct Tryz.underlying64 hf'
  obtain ⟨y0, y1, y3, y4, y5, rfl⟩ := list5V xs hxl
  have k3 : Tryz.prog.cellsOf 3 = 1 := by kernel_rfl
  have k9 : Tryz.prog.cellsOf 9 = 1 := by kernel_rfl
  have k24 : Tryz.prog.cellsOf 23 = 1 := by kernel_rfl
  have g0 : DataW.trod enc Tryz.prog w base (fun _ => true) true k 3 (([v0, v1, v3, v4, v5].drop 0).take (Tryz.prog.cellsOf 3)) = [y0, y1, y3, y4, y5][0]? := hg 0 _ rfl
  rw [k3] at g0
  replace g0 : DataW.trod enc Tryz.prog w base (fun _ => true) true k 3 [v0] = some y0 := g0
  have g1 : DataW.trod enc Tryz.prog w base (fun _ => true) true k 3 (([v0, v1, v3, v4, v5].drop 1).take (Tryz.prog.cellsOf 3)) = [y0, y1, y3, y4, y5][1]? := hg 1 _ rfl
  rw [k3] at g1
  replace g1 : DataW.trod enc Tryz.prog w base (fun _ => true) true k 3 [v1] = some y1 := g1
  have g3 : DataW.trod enc Tryz.prog w base (fun _ => true) true k 3 (([v0, v1, v3, v4, v5].drop 2).take (Tryz.prog.cellsOf 3)) = [y0, y1, y3, y4, y5][2]? := hg 2 _ rfl
  rw [k3] at g3
  replace g3 : DataW.trod enc Tryz.prog w base (fun _ => true) true k 3 [v3] = some y3 := g3
  have g4 : DataW.trod enc Tryz.prog w base (fun _ => true) true k 9 (([v0, v1, v3, v4, v5].drop 3).take (Tryz.prog.cellsOf 9)) = [y0, y1, y3, y4, y5][3]? := hg 3 _ rfl
  rw [k9] at g4
  replace g4 : DataW.trod enc Tryz.prog w base (fun _ => true) true k 9 [v4] = some y4 := g4
  have g5 : DataW.trod enc Tryz.prog w base (fun _ => true) true k 23 (([v0, v1, v3, v4, v5].drop 4).take (Tryz.prog.cellsOf 23)) = [y0, y1, y3, y4, y5][4]? := hg 4 _ rfl
  rw [k24] at g5
  replace g5 : DataW.trod enc Tryz.prog w base (fun _ => true) true k 23 [v5] = some y5 := g5
  obtain ⟨z0, e0, _, _⟩ := DataW.trod_int Tryz.underlying3 g0
  obtain ⟨z1, e1, _, _⟩ := DataW.trod_int Tryz.underlying3 g1
  obtain ⟨z3, e3, _, wf3⟩ := DataW.trod_int Tryz.underlying3 g3
  obtain ⟨z4, e4, x4, _⟩ := DataW.trod_string Tryz.underlying9 g4
  obtain ⟨css, hr, hr1, hr2⟩ := open_rss g5
  simp only [List.cons.injEq, and_true] at e0 e1 e3 e4
  subst e0 e1 e3 e4
  simp only [Prod.mk.injEq] at hxy
  have hD := hxy.1
  have hb1 : Rows.uptoBulk y5.1 ≤ Rows.uptoBulk d := by
    rw [hD]
    have := bulk_mem (H := H) (l := List.map (fun x => x.fst) [y0, y1, y3, y4, y5]) (d := y5.1) (by simp)
    simp only [Rows.uptoBulk]; omega
  exact ⟨z0, z1, z3, z4, v5, css, rfl, hr, by omega, fun j => by have := hr2 j; omega, wf_le wf3⟩
end
end Go.Proofs.YtilpbjcbffbjeaaGreatDoor
