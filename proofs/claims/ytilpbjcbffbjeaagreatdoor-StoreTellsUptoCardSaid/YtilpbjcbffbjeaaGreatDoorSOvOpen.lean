/- A slice of structs that came in, opened: SOvs. (Written by gen_opener.py.) -/
import Derived.Test.YtilpbjcbffbjeaaGreatDoorDOpen
import Derived.Test.YtilpbjcbffbjeaaGreatDoorPkS
namespace Go.Proofs.YtilpbjcbffbjeaaGreatDoor
set_option linter.unusedVariables false
set_option maxRecDepth 100000
open Go.ChangeShapes Go.WideShapes Go.ChangeAt Go.RowKit Go.Deep
theorem open_sovslist {α : Type} (l : List α) (h : l.length = 7) : ∃ v0 v1 v2 v3 v4 v5 v6, l = [v0, v1, v2, v3, v4, v5, v6] := by
  match l, h with
  | [v0, v1, v2, v3, v4, v5, v6], _ => exact ⟨v0, v1, v2, v3, v4, v5, v6, rfl⟩
theorem open_sovswf {z : Int} (h : (Lit.int .i64 z).wf = true) : -9223372036854775808 ≤ z := by
  simp [Lit.wf] at h
  have e : IntKind.i64.min = -9223372036854775808 := rfl
  omega
def open_sovssum (B : Nat → Nat) : Nat → Nat
  | 0 => 0
  | n + 1 => open_sovssum B n + B n
theorem open_sovssum_le {H : Type} (D : Nat → DataW H) (n : Nat) : open_sovssum (fun i => Rows.uptoBulk (D i)) n = Rows.uptoBulkAll ((List.range n).map D) := by
  induction n with
  | zero => rfl
  | succ n ih => rw [List.range_succ, List.map_append, bulk_all_append, open_sovssum, ih]; simp [Rows.uptoBulkAll]
def open_sovsAt (w : World) (b at_ : Nat) (o : SOv) : Prop := ∃ v6, w.cell? ⟨b, at_, none⟩ = some (.int .i64 o.on) ∧ w.cell? ⟨b, at_ + 1, none⟩ = some (.int .i64 o.kind) ∧ w.cell? ⟨b, at_ + 2, none⟩ = some (.int .i64 o.ten) ∧ w.cell? ⟨b, at_ + 3, none⟩ = some (.int .i64 o.off) ∧ w.cell? ⟨b, at_ + 4, none⟩ = some (.int .i64 o.n) ∧ w.cell? ⟨b, at_ + 5, none⟩ = some (.string o.s) ∧ w.cell? ⟨b, at_ + 6, none⟩ = some (v6) ∧ Rss w v6 o.css
/-- What an element's bulk bounds. -/
structure open_sovsBd (b : Nat) (o : SOv) : Prop where
  onb : o.on ≤ 9223372036854775807
  onl : -9223372036854775808 ≤ o.on
  kindb : o.kind ≤ 9223372036854775807
  kindl : -9223372036854775808 ≤ o.kind
  tenb : o.ten ≤ 9223372036854775807
  tenl : -9223372036854775808 ≤ o.ten
  offb : o.off ≤ 9223372036854775807
  offl : -9223372036854775808 ≤ o.off
  nb : o.n ≤ 9223372036854775807
  nl : -9223372036854775808 ≤ o.n
  sb : o.s.size ≤ b
  cssb : o.css.length ≤ b
  cssr : ∀ j, (o.css.getD j []).length ≤ b
section
variable {H : Type} {enc : TypeId × Value → H} {w : World} {base : Nat} {v : Value} {x : DataW H × List MemPlace} {fuel : Nat}
set_option maxHeartbeats 1600000 in
theorem open_sovs (h : DataW.trod enc Tryz.prog w base (fun _ => true) true fuel 78 [v] = some x) : ∃ (os : List SOv) (B : Nat → Nat), SOvs w v os ∧ os.length ≤ Rows.uptoBulk x.1 ∧ (∀ i, i < os.length → open_sovsBd (B i) (os.getD i SOv.zero)) ∧ open_sovssum B os.length + os.length ≤ 2 * Rows.uptoBulk x.1 ∧ open_sovssum B os.length ≤ Rows.uptoBulk x.1 := by
  rcases open_slice Tryz.underlying78 h with ⟨hcs, hx⟩ | ⟨a, len, cap, m, n, D, Pl, hcs, _, hl, hm, hmm, hx, hi⟩
  · simp at hcs
    subst hcs
    exact ⟨[], fun _ => 0, ⟨none, 0, rfl, fun i hi => absurd hi (Nat.not_lt_zero _)⟩, Nat.zero_le _, fun i hi => absurd hi (Nat.not_lt_zero _), Nat.zero_le _, Nat.zero_le _⟩
  · simp at hcs
    subst hcs
    simp only [if_true] at hmm
    subst hmm
    obtain ⟨b, off, spot⟩ := a
    have ce : Tryz.prog.cellsOf 83 = 7 := by kernel_rfl
    rw [ce] at hi
    by_cases hz : len = 0
    · subst hz
      exact ⟨[], fun _ => 0, ⟨_, _, rfl, fun i hi => absurd hi (Nat.not_lt_zero _)⟩, Nat.zero_le _, fun i hi => absurd hi (Nat.not_lt_zero _), Nat.zero_le _, Nat.zero_le _⟩
    have hspot : spot = none := by
      obtain ⟨cs', h1, _⟩ := hi 0 (by omega)
      obtain ⟨_, hlen, hcell⟩ := World.cells?_some h1
      have := hcell 0 (by omega)
      rw [List.getElem?_eq_getElem (by omega)] at this
      simpa [Addr.add] using World.cell?_spot this
    subst hspot
    have each : ∀ i, i < len → ∃ o : SOv, open_sovsAt w b (off + i * 7) o ∧ open_sovsBd (Rows.uptoBulk (D i)) o := by
      intro i hil
      obtain ⟨cs', h1, h2⟩ := hi i (by omega)
      obtain ⟨_, hlen, hcell⟩ := World.cells?_some h1
      obtain ⟨xs, k, hk, hxy, _, hxl, hf⟩ := DataW.trod_struct Tryz.underlying83 h2
      obtain ⟨y0, y1, y2, y3, y4, y5, y6, rfl⟩ := open_sovslist xs hxl
      obtain ⟨v0, v1, v2, v3, v4, v5, v6, rfl⟩ := open_sovslist cs' hlen
      have ki : Tryz.prog.cellsOf 3 = 1 := by kernel_rfl
      have ks : Tryz.prog.cellsOf 9 = 1 := by kernel_rfl
      have kC : Tryz.prog.cellsOf 23 = 1 := by kernel_rfl
      have g0 : DataW.trod enc Tryz.prog w base (fun _ => true) true k 3 (([v0, v1, v2, v3, v4, v5, v6].drop 0).take (Tryz.prog.cellsOf 3)) = [y0, y1, y2, y3, y4, y5, y6][0]? := hf 0 _ rfl
      rw [ki] at g0
      replace g0 : DataW.trod enc Tryz.prog w base (fun _ => true) true k 3 [v0] = some y0 := g0
      have g1 : DataW.trod enc Tryz.prog w base (fun _ => true) true k 3 (([v0, v1, v2, v3, v4, v5, v6].drop 1).take (Tryz.prog.cellsOf 3)) = [y0, y1, y2, y3, y4, y5, y6][1]? := hf 1 _ rfl
      rw [ki] at g1
      replace g1 : DataW.trod enc Tryz.prog w base (fun _ => true) true k 3 [v1] = some y1 := g1
      have g2 : DataW.trod enc Tryz.prog w base (fun _ => true) true k 3 (([v0, v1, v2, v3, v4, v5, v6].drop 2).take (Tryz.prog.cellsOf 3)) = [y0, y1, y2, y3, y4, y5, y6][2]? := hf 2 _ rfl
      rw [ki] at g2
      replace g2 : DataW.trod enc Tryz.prog w base (fun _ => true) true k 3 [v2] = some y2 := g2
      have g3 : DataW.trod enc Tryz.prog w base (fun _ => true) true k 3 (([v0, v1, v2, v3, v4, v5, v6].drop 3).take (Tryz.prog.cellsOf 3)) = [y0, y1, y2, y3, y4, y5, y6][3]? := hf 3 _ rfl
      rw [ki] at g3
      replace g3 : DataW.trod enc Tryz.prog w base (fun _ => true) true k 3 [v3] = some y3 := g3
      have g4 : DataW.trod enc Tryz.prog w base (fun _ => true) true k 3 (([v0, v1, v2, v3, v4, v5, v6].drop 4).take (Tryz.prog.cellsOf 3)) = [y0, y1, y2, y3, y4, y5, y6][4]? := hf 4 _ rfl
      rw [ki] at g4
      replace g4 : DataW.trod enc Tryz.prog w base (fun _ => true) true k 3 [v4] = some y4 := g4
      have g5 : DataW.trod enc Tryz.prog w base (fun _ => true) true k 9 (([v0, v1, v2, v3, v4, v5, v6].drop 5).take (Tryz.prog.cellsOf 9)) = [y0, y1, y2, y3, y4, y5, y6][5]? := hf 5 _ rfl
      rw [ks] at g5
      replace g5 : DataW.trod enc Tryz.prog w base (fun _ => true) true k 9 [v5] = some y5 := g5
      have g6 : DataW.trod enc Tryz.prog w base (fun _ => true) true k 23 (([v0, v1, v2, v3, v4, v5, v6].drop 6).take (Tryz.prog.cellsOf 23)) = [y0, y1, y2, y3, y4, y5, y6][6]? := hf 6 _ rfl
      rw [kC] at g6
      replace g6 : DataW.trod enc Tryz.prog w base (fun _ => true) true k 23 [v6] = some y6 := g6
      obtain ⟨z0, e0, _, wf0⟩ := DataW.trod_int Tryz.underlying3 g0
      obtain ⟨z1, e1, _, wf1⟩ := DataW.trod_int Tryz.underlying3 g1
      obtain ⟨z2, e2, _, wf2⟩ := DataW.trod_int Tryz.underlying3 g2
      obtain ⟨z3, e3, _, wf3⟩ := DataW.trod_int Tryz.underlying3 g3
      obtain ⟨z4, e4, _, wf4⟩ := DataW.trod_int Tryz.underlying3 g4
      obtain ⟨z5, e5, x5, _⟩ := DataW.trod_string Tryz.underlying9 g5
      obtain ⟨z6, m6, b6, r6⟩ := open_rss g6
      simp only [List.cons.injEq, and_true] at e0 e1 e2 e3 e4 e5
      subst e0 e1 e2 e3 e4 e5
      simp only [add_plain, Prod.mk.injEq] at hcell hxy
      have hD := hxy.1
      have q5 : Rows.uptoBulk y5.1 ≤ Rows.uptoBulk (D i) := by
        rw [hD]
        have := bulk_mem (H := H) (l := List.map (fun x => x.fst) [y0, y1, y2, y3, y4, y5, y6]) (d := y5.1) (by simp)
        simp only [Rows.uptoBulk]; omega
      have s5 : z5.size ≤ Rows.uptoBulk y5.1 := by rw [x5]; have := bulk_str (H := H) z5; show _ ≤ Rows.uptoBulk (DataW.lit (H := H) (.string z5.data.toList)); omega
      have q6 : Rows.uptoBulk y6.1 ≤ Rows.uptoBulk (D i) := by
        rw [hD]
        have := bulk_mem (H := H) (l := List.map (fun x => x.fst) [y0, y1, y2, y3, y4, y5, y6]) (d := y6.1) (by simp)
        simp only [Rows.uptoBulk]; omega
      exact ⟨⟨z0, z1, z2, z3, z4, z5, z6⟩, ⟨v6, hcell 0 (by omega), hcell 1 (by omega), hcell 2 (by omega), hcell 3 (by omega), hcell 4 (by omega), hcell 5 (by omega), hcell 6 (by omega), m6⟩, ⟨wf_le wf0, open_sovswf wf0, wf_le wf1, open_sovswf wf1, wf_le wf2, open_sovswf wf2, wf_le wf3, open_sovswf wf3, wf_le wf4, open_sovswf wf4, by dsimp only; omega, by dsimp only; omega, fun j => by have := r6 j; dsimp only; omega⟩⟩
    haveI : Inhabited SOv := ⟨SOv.zero⟩
    obtain ⟨O, hO⟩ := choose_lt (α := SOv) each
    have hlen : ((List.range len).map O).length = len := by rw [List.length_map, List.length_range]
    have hgd : ∀ i, i < len → ((List.range len).map O).getD i SOv.zero = O i := fun i hi => by rw [List.getD_eq_getElem?_getD, List.getElem?_map, List.getElem?_range hi]; rfl
    have hsum := open_sovssum_le D len
    have hbl := bulk_len ((List.range len).map D)
    rw [List.length_map, List.length_range] at hbl
    have hxb : Rows.uptoBulkAll ((List.range len).map D) ≤ Rows.uptoBulk x.1 := by rw [hx]; simp only [Rows.uptoBulk]; omega
    refine ⟨(List.range len).map O, fun i => Rows.uptoBulk (D i), ⟨some ⟨b, off, none⟩, m, by rw [hlen], fun i hi => ?_⟩, by rw [hlen]; omega, fun i hi => ?_, by rw [hlen, hsum]; omega, by rw [hlen, hsum]; omega⟩
    · rw [hlen] at hi
      rw [hgd i hi]
      obtain ⟨v6, c0, c1, c2, c3, c4, c5, c6, m6⟩ := (hO i hi).1
      exact ⟨b, off, v6, rfl, c0, c1, c2, c3, c4, c5, c6, m6⟩
    · rw [hlen] at hi
      rw [hgd i hi]
      exact (hO i hi).2
end
end Go.Proofs.YtilpbjcbffbjeaaGreatDoor
