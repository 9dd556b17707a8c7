/- A slice of structs that came in, opened: Lifes. (Written by gen_opener.py.) -/
import Derived.Test.YtilpbjcbffbjeaaDoorDOpen
import Derived.Test.YtilpbjcbffbjeaaDoorWLvT
namespace Go.Proofs.YtilpbjcbffbjeaaDoor
set_option linter.unusedVariables false
set_option maxRecDepth 100000
open Go.ChangeShapes Go.WideShapes Go.ChangeAt Go.RowKit Go.Deep
theorem open_lifeslist {α : Type} (l : List α) (h : l.length = 6) : ∃ v0 v1 v2 v3 v4 v5, l = [v0, v1, v2, v3, v4, v5] := by
  match l, h with
  | [v0, v1, v2, v3, v4, v5], _ => exact ⟨v0, v1, v2, v3, v4, v5, rfl⟩
theorem open_lifeswf {z : Int} (h : (Lit.int .i64 z).wf = true) : -9223372036854775808 ≤ z := by
  simp [Lit.wf] at h
  have e : IntKind.i64.min = -9223372036854775808 := rfl
  omega
def open_lifessum (B : Nat → Nat) : Nat → Nat
  | 0 => 0
  | n + 1 => open_lifessum B n + B n
theorem open_lifessum_le {H : Type} (D : Nat → DataW H) (n : Nat) : open_lifessum (fun i => Rows.uptoBulk (D i)) n = Rows.uptoBulkAll ((List.range n).map D) := by
  induction n with
  | zero => rfl
  | succ n ih => rw [List.range_succ, List.map_append, bulk_all_append, open_lifessum, ih]; simp [Rows.uptoBulkAll]
def open_lifesAt (w : World) (b at_ : Nat) (o : Lf) : Prop := ∃ v0 v1 v5, w.cell? ⟨b, at_, none⟩ = some (v0) ∧ w.cell? ⟨b, at_ + 1, none⟩ = some (v1) ∧ w.cell? ⟨b, at_ + 2, none⟩ = some (.string o.sn) ∧ w.cell? ⟨b, at_ + 3, none⟩ = some (.int .i64 o.n) ∧ w.cell? ⟨b, at_ + 4, none⟩ = some (.int .i64 o.ag) ∧ w.cell? ⟨b, at_ + 5, none⟩ = some (v5) ∧ Strs w v0 o.texts ∧ Ints w v1 o.thens ∧ Rss w v5 o.css
/-- What an element's bulk bounds. -/
structure open_lifesBd (b : Nat) (o : Lf) : Prop where
  textsb : (cat o.texts).length + o.texts.length ≤ b
  thensb : o.thens.length ≤ b
  snb : o.sn.size ≤ b
  nb : o.n ≤ 9223372036854775807
  nl : -9223372036854775808 ≤ o.n
  agb : o.ag ≤ 9223372036854775807
  agl : -9223372036854775808 ≤ o.ag
  cssb : o.css.length ≤ b
  cssr : ∀ j, (o.css.getD j []).length ≤ b
section
variable {H : Type} {enc : TypeId × Value → H} {w : World} {base : Nat} {v : Value} {x : DataW H × List MemPlace} {fuel : Nat}
set_option maxHeartbeats 1600000 in
theorem open_lifes (h : DataW.trod enc Tryd.prog w base (fun _ => true) true fuel 45 [v] = some x) : ∃ (os : List Lf) (B : Nat → Nat), Lifes w v os ∧ os.length ≤ Rows.uptoBulk x.1 ∧ (∀ i, i < os.length → open_lifesBd (B i) (os.getD i Lf.zero)) ∧ open_lifessum B os.length + os.length ≤ 2 * Rows.uptoBulk x.1 ∧ open_lifessum B os.length ≤ Rows.uptoBulk x.1 := by
  rcases open_slice Tryd.underlying45 h with ⟨hcs, hx⟩ | ⟨a, len, cap, m, n, D, Pl, hcs, _, hl, hm, hmm, hx, hi⟩
  · simp at hcs
    subst hcs
    exact ⟨[], fun _ => 0, ⟨none, 0, rfl, fun i hi => absurd hi (Nat.not_lt_zero _)⟩, Nat.zero_le _, fun i hi => absurd hi (Nat.not_lt_zero _), Nat.zero_le _, Nat.zero_le _⟩
  · simp at hcs
    subst hcs
    simp only [if_true] at hmm
    subst hmm
    obtain ⟨b, off, spot⟩ := a
    have ce : Tryd.prog.cellsOf 54 = 6 := by kernel_rfl
    rw [ce] at hi
    by_cases hz : len = 0
    · subst hz
      exact ⟨[], fun _ => 0, ⟨_, _, rfl, fun i hi => absurd hi (Nat.not_lt_zero _)⟩, Nat.zero_le _, fun i hi => absurd hi (Nat.not_lt_zero _), Nat.zero_le _, Nat.zero_le _⟩
    have hspot : spot = none := by
      obtain ⟨cs', h1, _⟩ := hi 0 (by omega)
      obtain ⟨_, hlen, hcell⟩ := World.cells?_some h1
      have := hcell 0 (by omega)
      rw [List.getElem?_eq_getElem (by omega)] at this
      simpa [Addr.add] using World.cell?_spot this
    subst hspot
    have each : ∀ i, i < len → ∃ o : Lf, open_lifesAt w b (off + i * 6) o ∧ open_lifesBd (Rows.uptoBulk (D i)) o := by
      intro i hil
      obtain ⟨cs', h1, h2⟩ := hi i (by omega)
      obtain ⟨_, hlen, hcell⟩ := World.cells?_some h1
      obtain ⟨xs, k, hk, hxy, _, hxl, hf⟩ := DataW.trod_struct Tryd.underlying54 h2
      obtain ⟨y0, y1, y2, y3, y4, y5, rfl⟩ := open_lifeslist xs hxl
      obtain ⟨v0, v1, v2, v3, v4, v5, rfl⟩ := open_lifeslist cs' hlen
      have kS : Tryd.prog.cellsOf 22 = 1 := by kernel_rfl
      have kI : Tryd.prog.cellsOf 51 = 1 := by kernel_rfl
      have ks : Tryd.prog.cellsOf 9 = 1 := by kernel_rfl
      have ki : Tryd.prog.cellsOf 3 = 1 := by kernel_rfl
      have kC : Tryd.prog.cellsOf 52 = 1 := by kernel_rfl
      have g0 : DataW.trod enc Tryd.prog w base (fun _ => true) true k 22 (([v0, v1, v2, v3, v4, v5].drop 0).take (Tryd.prog.cellsOf 22)) = [y0, y1, y2, y3, y4, y5][0]? := hf 0 _ rfl
      rw [kS] at g0
      replace g0 : DataW.trod enc Tryd.prog w base (fun _ => true) true k 22 [v0] = some y0 := g0
      have g1 : DataW.trod enc Tryd.prog w base (fun _ => true) true k 51 (([v0, v1, v2, v3, v4, v5].drop 1).take (Tryd.prog.cellsOf 51)) = [y0, y1, y2, y3, y4, y5][1]? := hf 1 _ rfl
      rw [kI] at g1
      replace g1 : DataW.trod enc Tryd.prog w base (fun _ => true) true k 51 [v1] = some y1 := g1
      have g2 : DataW.trod enc Tryd.prog w base (fun _ => true) true k 9 (([v0, v1, v2, v3, v4, v5].drop 2).take (Tryd.prog.cellsOf 9)) = [y0, y1, y2, y3, y4, y5][2]? := hf 2 _ rfl
      rw [ks] at g2
      replace g2 : DataW.trod enc Tryd.prog w base (fun _ => true) true k 9 [v2] = some y2 := g2
      have g3 : DataW.trod enc Tryd.prog w base (fun _ => true) true k 3 (([v0, v1, v2, v3, v4, v5].drop 3).take (Tryd.prog.cellsOf 3)) = [y0, y1, y2, y3, y4, y5][3]? := hf 3 _ rfl
      rw [ki] at g3
      replace g3 : DataW.trod enc Tryd.prog w base (fun _ => true) true k 3 [v3] = some y3 := g3
      have g4 : DataW.trod enc Tryd.prog w base (fun _ => true) true k 3 (([v0, v1, v2, v3, v4, v5].drop 4).take (Tryd.prog.cellsOf 3)) = [y0, y1, y2, y3, y4, y5][4]? := hf 4 _ rfl
      rw [ki] at g4
      replace g4 : DataW.trod enc Tryd.prog w base (fun _ => true) true k 3 [v4] = some y4 := g4
      have g5 : DataW.trod enc Tryd.prog w base (fun _ => true) true k 52 (([v0, v1, v2, v3, v4, v5].drop 5).take (Tryd.prog.cellsOf 52)) = [y0, y1, y2, y3, y4, y5][5]? := hf 5 _ rfl
      rw [kC] at g5
      replace g5 : DataW.trod enc Tryd.prog w base (fun _ => true) true k 52 [v5] = some y5 := g5
      obtain ⟨z0, m0, b0⟩ := open_strs1 Tryd.underlying22 Tryd.underlying9 (by kernel_rfl) g0
      obtain ⟨z1, m1, b1⟩ := open_ints1 Tryd.underlying51 Tryd.underlying3 (by kernel_rfl) g1
      obtain ⟨z2, e2, x2, _⟩ := DataW.trod_string Tryd.underlying9 g2
      obtain ⟨z3, e3, _, wf3⟩ := DataW.trod_int Tryd.underlying3 g3
      obtain ⟨z4, e4, _, wf4⟩ := DataW.trod_int Tryd.underlying3 g4
      obtain ⟨z5, m5, b5, r5⟩ := open_rss g5
      simp only [List.cons.injEq, and_true] at e2 e3 e4
      subst e2 e3 e4
      simp only [add_plain, Prod.mk.injEq] at hcell hxy
      have hD := hxy.1
      have q0 : Rows.uptoBulk y0.1 ≤ Rows.uptoBulk (D i) := by
        rw [hD]
        have := bulk_mem (H := H) (l := List.map (fun x => x.fst) [y0, y1, y2, y3, y4, y5]) (d := y0.1) (by simp)
        simp only [Rows.uptoBulk]; omega
      have q1 : Rows.uptoBulk y1.1 ≤ Rows.uptoBulk (D i) := by
        rw [hD]
        have := bulk_mem (H := H) (l := List.map (fun x => x.fst) [y0, y1, y2, y3, y4, y5]) (d := y1.1) (by simp)
        simp only [Rows.uptoBulk]; omega
      have q2 : Rows.uptoBulk y2.1 ≤ Rows.uptoBulk (D i) := by
        rw [hD]
        have := bulk_mem (H := H) (l := List.map (fun x => x.fst) [y0, y1, y2, y3, y4, y5]) (d := y2.1) (by simp)
        simp only [Rows.uptoBulk]; omega
      have s2 : z2.size ≤ Rows.uptoBulk y2.1 := by rw [x2]; have := bulk_str (H := H) z2; show _ ≤ Rows.uptoBulk (DataW.lit (H := H) (.string z2.data.toList)); omega
      have q5 : Rows.uptoBulk y5.1 ≤ Rows.uptoBulk (D i) := by
        rw [hD]
        have := bulk_mem (H := H) (l := List.map (fun x => x.fst) [y0, y1, y2, y3, y4, y5]) (d := y5.1) (by simp)
        simp only [Rows.uptoBulk]; omega
      exact ⟨⟨z0, z1, z2, z3, z4, z5⟩, ⟨v0, v1, v5, hcell 0 (by omega), hcell 1 (by omega), hcell 2 (by omega), hcell 3 (by omega), hcell 4 (by omega), hcell 5 (by omega), m0, m1, m5⟩, ⟨by dsimp only; omega, by dsimp only; omega, by dsimp only; omega, wf_le wf3, open_lifeswf wf3, wf_le wf4, open_lifeswf wf4, by dsimp only; omega, fun j => by have := r5 j; dsimp only; omega⟩⟩
    haveI : Inhabited Lf := ⟨Lf.zero⟩
    obtain ⟨O, hO⟩ := choose_lt (α := Lf) each
    have hlen : ((List.range len).map O).length = len := by rw [List.length_map, List.length_range]
    have hgd : ∀ i, i < len → ((List.range len).map O).getD i Lf.zero = O i := fun i hi => by rw [List.getD_eq_getElem?_getD, List.getElem?_map, List.getElem?_range hi]; rfl
    have hsum := open_lifessum_le D len
    have hbl := bulk_len ((List.range len).map D)
    rw [List.length_map, List.length_range] at hbl
    have hxb : Rows.uptoBulkAll ((List.range len).map D) ≤ Rows.uptoBulk x.1 := by rw [hx]; simp only [Rows.uptoBulk]; omega
    refine ⟨(List.range len).map O, fun i => Rows.uptoBulk (D i), ⟨some ⟨b, off, none⟩, m, by rw [hlen], fun i hi => ?_⟩, by rw [hlen]; omega, fun i hi => ?_, by rw [hlen, hsum]; omega, by rw [hlen, hsum]; omega⟩
    · rw [hlen] at hi
      rw [hgd i hi]
      obtain ⟨v0, v1, v5, c0, c1, c2, c3, c4, c5, m0, m1, m5⟩ := (hO i hi).1
      exact ⟨b, off, v0, v1, v5, rfl, c0, c1, c2, c3, c4, c5, m0, m1, m5⟩
    · rw [hlen] at hi
      rw [hgd i hi]
      exact (hO i hi).2
end
theorem lf_sum_at (B : Nat → Nat) (n i : Nat) (h : i < n) : B i ≤ open_lifessum B n := by
  induction n with
  | zero => omega
  | succ n ih =>
    rw [open_lifessum]
    by_cases e : i = n
    · subst e; omega
    · have := ih (by omega); omega
theorem tot_sum (ls : List Lf) (B : Nat → Nat) (h : ∀ i, i < ls.length → open_lifesBd (B i) (ls.getD i Lf.zero)) : tot ls ≤ open_lifessum B ls.length := by
  have hn : ∀ n, n ≤ ls.length → tot (ls.take n) ≤ open_lifessum B n := by
    intro n
    induction n with
    | zero => intro _; exact Nat.zero_le _
    | succ n ih =>
      intro hn
      rw [tot_take ls n (by omega), open_lifessum]
      have := (h n (by omega)).textsb
      have := ih (by omega)
      omega
  have := hn ls.length (Nat.le_refl _)
  rwa [List.take_length] at this
end Go.Proofs.YtilpbjcbffbjeaaDoor
