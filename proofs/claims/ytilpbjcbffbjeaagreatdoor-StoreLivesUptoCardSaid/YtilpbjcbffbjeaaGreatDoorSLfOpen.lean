/- A slice of structs that came in, opened: SLifes. (Written by gen_opener.py.) -/
import Derived.Test.YtilpbjcbffbjeaaGreatDoorDOpen
import Derived.Test.YtilpbjcbffbjeaaGreatDoorSLvF
namespace Go.Proofs.YtilpbjcbffbjeaaGreatDoor
set_option linter.unusedVariables false
set_option maxRecDepth 100000
open Go.ChangeShapes Go.WideShapes Go.ChangeAt Go.RowKit Go.Deep
theorem open_slifeslist {α : Type} (l : List α) (h : l.length = 5) : ∃ v0 v1 v2 v3 v4, l = [v0, v1, v2, v3, v4] := by
  match l, h with
  | [v0, v1, v2, v3, v4], _ => exact ⟨v0, v1, v2, v3, v4, rfl⟩
theorem open_slifeswf {z : Int} (h : (Lit.int .i64 z).wf = true) : -9223372036854775808 ≤ z := by
  simp [Lit.wf] at h
  have e : IntKind.i64.min = -9223372036854775808 := rfl
  omega
def open_slifessum (B : Nat → Nat) : Nat → Nat
  | 0 => 0
  | n + 1 => open_slifessum B n + B n
theorem open_slifessum_le {H : Type} (D : Nat → DataW H) (n : Nat) : open_slifessum (fun i => Rows.uptoBulk (D i)) n = Rows.uptoBulkAll ((List.range n).map D) := by
  induction n with
  | zero => rfl
  | succ n ih => rw [List.range_succ, List.map_append, bulk_all_append, open_slifessum, ih]; simp [Rows.uptoBulkAll]
def open_slifesAt (w : World) (b at_ : Nat) (o : Slf) : Prop := ∃ v0 v1 v4, w.cell? ⟨b, at_, none⟩ = some (v0) ∧ w.cell? ⟨b, at_ + 1, none⟩ = some (v1) ∧ w.cell? ⟨b, at_ + 2, none⟩ = some (.int .i64 o.n) ∧ w.cell? ⟨b, at_ + 3, none⟩ = some (.int .i64 o.ag) ∧ w.cell? ⟨b, at_ + 4, none⟩ = some (v4) ∧ Ints w v0 o.tens ∧ Strs w v1 o.texts ∧ Rss w v4 o.css
/-- What an element's bulk bounds. -/
structure open_slifesBd (b : Nat) (o : Slf) : Prop where
  tensb : o.tens.length ≤ b
  textsb : (cat o.texts).length + o.texts.length ≤ b
  nb : o.n ≤ 9223372036854775807
  nl : -9223372036854775808 ≤ o.n
  agb : o.ag ≤ 9223372036854775807
  agl : -9223372036854775808 ≤ o.ag
  cssb : o.css.length ≤ b
  cssr : ∀ j, (o.css.getD j []).length ≤ b
section
variable {H : Type} {enc : TypeId × Value → H} {w : World} {base : Nat} {v : Value} {x : DataW H × List MemPlace} {fuel : Nat}
set_option maxHeartbeats 1600000 in
theorem open_slifes (h : DataW.trod enc Tryz.prog w base (fun _ => true) true fuel 89 [v] = some x) : ∃ (os : List Slf) (B : Nat → Nat), SLifes w v os ∧ os.length ≤ Rows.uptoBulk x.1 ∧ (∀ i, i < os.length → open_slifesBd (B i) (os.getD i Slf.zero)) ∧ open_slifessum B os.length + os.length ≤ 2 * Rows.uptoBulk x.1 ∧ open_slifessum B os.length ≤ Rows.uptoBulk x.1 := by
  rcases open_slice Tryz.underlying89 h with ⟨hcs, hx⟩ | ⟨a, len, cap, m, n, D, Pl, hcs, _, hl, hm, hmm, hx, hi⟩
  · simp at hcs
    subst hcs
    exact ⟨[], fun _ => 0, ⟨none, 0, rfl, fun i hi => absurd hi (Nat.not_lt_zero _)⟩, Nat.zero_le _, fun i hi => absurd hi (Nat.not_lt_zero _), Nat.zero_le _, Nat.zero_le _⟩
  · simp at hcs
    subst hcs
    simp only [if_true] at hmm
    subst hmm
    obtain ⟨b, off, spot⟩ := a
    have ce : Tryz.prog.cellsOf 91 = 5 := by kernel_rfl
    rw [ce] at hi
    by_cases hz : len = 0
    · subst hz
      exact ⟨[], fun _ => 0, ⟨_, _, rfl, fun i hi => absurd hi (Nat.not_lt_zero _)⟩, Nat.zero_le _, fun i hi => absurd hi (Nat.not_lt_zero _), Nat.zero_le _, Nat.zero_le _⟩
    have hspot : spot = none := by
      obtain ⟨cs', h1, _⟩ := hi 0 (by omega)
      obtain ⟨_, hlen, hcell⟩ := World.cells?_some h1
      have := hcell 0 (by omega)
      rw [List.getElem?_eq_getElem (by omega)] at this
      simpa [Addr.add] using World.cell?_spot this
    subst hspot
    have each : ∀ i, i < len → ∃ o : Slf, open_slifesAt w b (off + i * 5) o ∧ open_slifesBd (Rows.uptoBulk (D i)) o := by
      intro i hil
      obtain ⟨cs', h1, h2⟩ := hi i (by omega)
      obtain ⟨_, hlen, hcell⟩ := World.cells?_some h1
      obtain ⟨xs, k, hk, hxy, _, hxl, hf⟩ := DataW.trod_struct Tryz.underlying91 h2
      obtain ⟨y0, y1, y2, y3, y4, rfl⟩ := open_slifeslist xs hxl
      obtain ⟨v0, v1, v2, v3, v4, rfl⟩ := open_slifeslist cs' hlen
      have kI : Tryz.prog.cellsOf 34 = 1 := by kernel_rfl
      have kS : Tryz.prog.cellsOf 28 = 1 := by kernel_rfl
      have ki : Tryz.prog.cellsOf 3 = 1 := by kernel_rfl
      have kC : Tryz.prog.cellsOf 23 = 1 := by kernel_rfl
      have g0 : DataW.trod enc Tryz.prog w base (fun _ => true) true k 34 (([v0, v1, v2, v3, v4].drop 0).take (Tryz.prog.cellsOf 34)) = [y0, y1, y2, y3, y4][0]? := hf 0 _ rfl
      rw [kI] at g0
      replace g0 : DataW.trod enc Tryz.prog w base (fun _ => true) true k 34 [v0] = some y0 := g0
      have g1 : DataW.trod enc Tryz.prog w base (fun _ => true) true k 28 (([v0, v1, v2, v3, v4].drop 1).take (Tryz.prog.cellsOf 28)) = [y0, y1, y2, y3, y4][1]? := hf 1 _ rfl
      rw [kS] at g1
      replace g1 : DataW.trod enc Tryz.prog w base (fun _ => true) true k 28 [v1] = some y1 := g1
      have g2 : DataW.trod enc Tryz.prog w base (fun _ => true) true k 3 (([v0, v1, v2, v3, v4].drop 2).take (Tryz.prog.cellsOf 3)) = [y0, y1, y2, y3, y4][2]? := hf 2 _ rfl
      rw [ki] at g2
      replace g2 : DataW.trod enc Tryz.prog w base (fun _ => true) true k 3 [v2] = some y2 := g2
      have g3 : DataW.trod enc Tryz.prog w base (fun _ => true) true k 3 (([v0, v1, v2, v3, v4].drop 3).take (Tryz.prog.cellsOf 3)) = [y0, y1, y2, y3, y4][3]? := hf 3 _ rfl
      rw [ki] at g3
      replace g3 : DataW.trod enc Tryz.prog w base (fun _ => true) true k 3 [v3] = some y3 := g3
      have g4 : DataW.trod enc Tryz.prog w base (fun _ => true) true k 23 (([v0, v1, v2, v3, v4].drop 4).take (Tryz.prog.cellsOf 23)) = [y0, y1, y2, y3, y4][4]? := hf 4 _ rfl
      rw [kC] at g4
      replace g4 : DataW.trod enc Tryz.prog w base (fun _ => true) true k 23 [v4] = some y4 := g4
      obtain ⟨z0, m0, b0⟩ := open_ints1 Tryz.underlying34 Tryz.underlying3 (by kernel_rfl) g0
      obtain ⟨z1, m1, b1⟩ := open_strs1 Tryz.underlying28 Tryz.underlying9 (by kernel_rfl) g1
      obtain ⟨z2, e2, _, wf2⟩ := DataW.trod_int Tryz.underlying3 g2
      obtain ⟨z3, e3, _, wf3⟩ := DataW.trod_int Tryz.underlying3 g3
      obtain ⟨z4, m4, b4, r4⟩ := open_rss g4
      simp only [List.cons.injEq, and_true] at e2 e3
      subst e2 e3
      simp only [add_plain, Prod.mk.injEq] at hcell hxy
      have hD := hxy.1
      have q0 : Rows.uptoBulk y0.1 ≤ Rows.uptoBulk (D i) := by
        rw [hD]
        have := bulk_mem (H := H) (l := List.map (fun x => x.fst) [y0, y1, y2, y3, y4]) (d := y0.1) (by simp)
        simp only [Rows.uptoBulk]; omega
      have q1 : Rows.uptoBulk y1.1 ≤ Rows.uptoBulk (D i) := by
        rw [hD]
        have := bulk_mem (H := H) (l := List.map (fun x => x.fst) [y0, y1, y2, y3, y4]) (d := y1.1) (by simp)
        simp only [Rows.uptoBulk]; omega
      have q4 : Rows.uptoBulk y4.1 ≤ Rows.uptoBulk (D i) := by
        rw [hD]
        have := bulk_mem (H := H) (l := List.map (fun x => x.fst) [y0, y1, y2, y3, y4]) (d := y4.1) (by simp)
        simp only [Rows.uptoBulk]; omega
      exact ⟨⟨z0, z1, z2, z3, z4⟩, ⟨v0, v1, v4, hcell 0 (by omega), hcell 1 (by omega), hcell 2 (by omega), hcell 3 (by omega), hcell 4 (by omega), m0, m1, m4⟩, ⟨by dsimp only; omega, by dsimp only; omega, wf_le wf2, open_slifeswf wf2, wf_le wf3, open_slifeswf wf3, by dsimp only; omega, fun j => by have := r4 j; dsimp only; omega⟩⟩
    haveI : Inhabited Slf := ⟨Slf.zero⟩
    obtain ⟨O, hO⟩ := choose_lt (α := Slf) each
    have hlen : ((List.range len).map O).length = len := by rw [List.length_map, List.length_range]
    have hgd : ∀ i, i < len → ((List.range len).map O).getD i Slf.zero = O i := fun i hi => by rw [List.getD_eq_getElem?_getD, List.getElem?_map, List.getElem?_range hi]; rfl
    have hsum := open_slifessum_le D len
    have hbl := bulk_len ((List.range len).map D)
    rw [List.length_map, List.length_range] at hbl
    have hxb : Rows.uptoBulkAll ((List.range len).map D) ≤ Rows.uptoBulk x.1 := by rw [hx]; simp only [Rows.uptoBulk]; omega
    refine ⟨(List.range len).map O, fun i => Rows.uptoBulk (D i), ⟨some ⟨b, off, none⟩, m, by rw [hlen], fun i hi => ?_⟩, by rw [hlen]; omega, fun i hi => ?_, by rw [hlen, hsum]; omega, by rw [hlen, hsum]; omega⟩
    · rw [hlen] at hi
      rw [hgd i hi]
      obtain ⟨v0, v1, v4, c0, c1, c2, c3, c4, m0, m1, m4⟩ := (hO i hi).1
      exact ⟨b, off, v0, v1, v4, rfl, c0, c1, c2, c3, c4, m0, m1, m4⟩
    · rw [hlen] at hi
      rw [hgd i hi]
      exact (hO i hi).2
end
theorem slf_sum_at (B : Nat → Nat) (n i : Nat) (h : i < n) : B i ≤ open_slifessum B n := by
  induction n with
  | zero => omega
  | succ n ih =>
    rw [open_slifessum]
    by_cases e : i = n
    · subst e; omega
    · have := ih (by omega); omega
theorem stot_sum (ls : List Slf) (B : Nat → Nat) (h : ∀ i, i < ls.length → open_slifesBd (B i) (ls.getD i Slf.zero)) : stot ls ≤ open_slifessum B ls.length := by
  have hn : ∀ n, n ≤ ls.length → stot (ls.take n) ≤ open_slifessum B n := by
    intro n
    induction n with
    | zero => intro _; exact Nat.zero_le _
    | succ n ih =>
      intro hn
      rw [stot_take ls n (by omega), open_slifessum]
      have := (h n (by omega)).textsb
      have := ih (by omega)
      omega
  have := hn ls.length (Nat.le_refl _)
  rwa [List.take_length] at this
end Go.Proofs.YtilpbjcbffbjeaaGreatDoor
