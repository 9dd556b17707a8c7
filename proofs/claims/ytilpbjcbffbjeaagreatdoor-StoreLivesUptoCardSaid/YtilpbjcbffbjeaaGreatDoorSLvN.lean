/- What the law keeps of its tenants, made by appends of zeroes to a row of its own. -/
import Derived.Test.YtilpbjcbffbjeaaGreatDoorSLvP
namespace Go.Proofs.YtilpbjcbffbjeaaGreatDoor
set_option linter.unusedVariables false
set_option maxRecDepth 100000
open Go.RowKit
def heldCs : Nat → List Value
  | 0 => []
  | k + 1 => heldCs k ++ [.int .i64 0, .string ⟨#[]⟩]
theorem length_heldCs (k : Nat) : (heldCs k).length = k * 2 := by
  induction k with
  | zero => rfl
  | succ k ih => rw [heldCs, List.length_append, ih]; simp; omega
theorem heldCs_at (k t : Nat) (h : t < k) : (heldCs k)[t * 2]? = some (.int .i64 0) ∧ (heldCs k)[t * 2 + 1]? = some (.string ⟨#[]⟩) := by
  induction k with
  | zero => omega
  | succ k ih =>
    have hl := length_heldCs k
    by_cases e : t = k
    · subst e
      rw [heldCs, List.getElem?_append_right (by omega), List.getElem?_append_right (by omega), hl]
      rw [show t * 2 - t * 2 = 0 by omega, show t * 2 + 1 - t * 2 = 1 by omega]
      exact ⟨rfl, rfl⟩
    · obtain ⟨h1, h2⟩ := ih (by omega)
      rw [heldCs, List.getElem?_append_left (by omega), List.getElem?_append_left (by omega)]
      exact ⟨h1, h2⟩
/-- A row of its own of k zero held things. -/
def HeldZ (w : World) (base : Nat) (v : Value) (k : Nat) : Prop := w.ownsRow base 87 2 v k (heldCs k)
section
variable {w w' : World} {base k : Nat} {v : Value}
theorem HeldZ.emptyW (w : World) : HeldZ (w.alloc (.cells #[] 87)) w.heap.size (.slice (some ⟨w.heap.size, 0, none⟩) 0 0) 0 :=
  ⟨rfl, .inr ⟨w.heap.size, 0, _, rfl, Nat.le_refl _, heap_alloc_new w _, Nat.le_refl _, Nat.zero_le _, rfl, by simp [heldCs]⟩⟩
theorem HeldZ.typ (h : HeldZ w base v k) {j : Nat} (hj : v.ownBlock = some j) : ∃ cur, w.heap[j]? = some (.cells cur 87 (0, 0)) := by
  rcases h.2 with ⟨rfl, _⟩ | ⟨g, cap, cur, rfl, _, hg, _⟩
  · cases hj
  · injection hj with hj
    subst hj
    exact ⟨cur, hg⟩
theorem HeldZ.law (h : HeldZ w base v k) {j : Nat} (hj : v.ownBlock = some j) : OfLaw w j := by
  obtain ⟨cur, hg⟩ := h.typ hj
  exact ⟨cur, _, hg, .inl rfl⟩
theorem HeldZ.lt (h : HeldZ w base v k) {j : Nat} (hj : v.ownBlock = some j) : base ≤ j ∧ j < w.heap.size := World.ownsRow.lt h j hj
theorem HeldZ.muts (h : HeldZ w base v k) : Muts (fun j => v.ownBlock = some j) w := by
  intro j _ hj cur T fr hh
  obtain ⟨cv, h1⟩ := h.typ hj
  rw [h1] at hh
  injection hh with hh
  injection hh with _ hT _
  subst hT
  unfold Fix
  decide
theorem HeldZ.lower {base' : Nat} (h : HeldZ w base v k) (hb : base' ≤ base) : HeldZ w base' v k := by
  refine ⟨h.1, ?_⟩
  rcases h.2 with q | ⟨g, cap, cur, q1, q2, q3⟩
  · exact .inl q
  · exact .inr ⟨g, cap, cur, q1, Nat.le_trans hb q2, q3⟩
theorem HeldZ.below (h : HeldZ w base v k) (hb : Below w.heap.size w w') : HeldZ w' base v k := by
  refine ⟨h.1, ?_⟩
  rcases h.2 with q | ⟨g, cap, cur, q1, q2, q3, q4⟩
  · exact .inl q
  · exact .inr ⟨g, cap, cur, q1, q2, (hb.block g (Array.getElem?_eq_some_iff.1 q3).1).trans q3, q4⟩
theorem HeldZ.shape (h : HeldZ w base v k) : ∃ p cap, v = .slice p k cap := by
  rcases h.2 with ⟨rfl, h0⟩ | ⟨g, cap, cur, rfl, _⟩
  · exact ⟨none, 0, by rw [h0]⟩
  · exact ⟨_, _, rfl⟩
/-- It is what is held. -/
theorem HeldZ.held (h : HeldZ w base v k) (hk : 0 < k) {n : Nat → Nat} {tx : Nat → ByteArray} (hn : ∀ t, n (t + 1) = 0) (ht : ∀ t, tx (t + 1) = ⟨#[]⟩) : ∃ nb nc, v = .slice (some ⟨nb, 0, none⟩) k nc ∧ k ≤ nc ∧ nc ≤ 9223372036854775807 ∧ Held base w nb k n tx := by
  rcases h.2 with ⟨_, h0⟩ | ⟨g, cap, cur, rfl, q2, q3, q4, q5, q6, q7⟩
  · omega
  · refine ⟨g, cap, rfl, q4, q5, ⟨cur, q3, fun t h => ?_⟩, q2⟩
    obtain ⟨e1, e2⟩ := heldCs_at k t h
    rw [← q7, List.getElem?_take, if_pos (by omega), Array.getElem?_toList] at e1
    rw [← q7, List.getElem?_take, if_pos (by omega), Array.getElem?_toList] at e2
    rw [hn, ht]
    exact ⟨e1, e2⟩
theorem run_append_h (ty : TypeId) (h : HeldZ w base v k) (ad : Addr) (c : Nat) (h0 : w.cell? (ad.add 0) = some (.int .i64 0)) (h1 : w.cell? (ad.add 1) = some (.string ⟨#[]⟩)) (hk : k ≤ 1000) (hbase : base ≤ w.heap.size) :
    ∃ v' w', (Builtin.append_ #[85, 85] ty #[v, .slice (some ad) 1 c]).run Tryz.prog w = .ok v' w' ∧ HeldZ w' base v' (k + 1) ∧ w.grownBy w' v.ownBlock := by
  obtain ⟨i0, hi0, hz0, hz1, hz2⟩ := info_parts infoHeld
  have hx : ∀ j u, ([.int .i64 0, .string ⟨#[]⟩] : List Value)[j]? = some u → w.cell? (ad.add j) = some u := by
    intro j u hu
    match j with
    | 0 => cases hu; exact h0
    | 1 => cases hu; exact h1
    | j + 2 => simp at hu
  have h1c : ∀ u ∈ ([.int .i64 0, .string ⟨#[]⟩] : List Value), u.oneCell' = true := by
    intro u hu
    simp only [List.mem_cons, List.not_mem_nil, or_false] at hu
    rcases hu with rfl | rfl <;> rfl
  obtain ⟨v', w', hr, h2, h3, h4, h5⟩ := run_append_own_at (P := Tryz.prog) w base 85 ty 87 i0 _ 2 24 Tryz.underlying85 hi0 hz0 hz1 hz2 rfl (by decide) v k (heldCs k) h ad 1 c [.int .i64 0, .string ⟨#[]⟩] rfl hx h1c (by unfold maxLen; omega) (by omega) hbase
  exact ⟨v', w', hr, h2, h3⟩
theorem wpList_append_h {ops : Array Oper} {rest : List Oper} {o : Oper} {a : Act} {Q : Exit → Act → World → Prop}
    (hgd : Region.wanted o (yielded ops a.tmps) = true) (s x : Operand) (ho : o.op = .call { callee := .builtin .append, args := #[s, x], argTypes := #[85, 85] })
    (hs : a.eval s = v) (hown : HeldZ w base v k) (ad : Addr) (c : Nat) (hx : a.eval x = .slice (some ad) 1 c) (h0 : w.cell? (ad.add 0) = some (.int .i64 0)) (h1 : w.cell? (ad.add 1) = some (.string ⟨#[]⟩)) (hk : k ≤ 1000) (hbase : base ≤ w.heap.size)
    (h : ∀ v' w', HeldZ w' base v' (k + 1) → w.grownBy w' v.ownBlock → wpList Tryz.prog ops Q rest (a.put o.dst v') w') : wpList Tryz.prog ops Q (o :: rest) a w := by
  obtain ⟨v', w', hr, h2, h3⟩ := run_append_h o.type hown ad c h0 h1 hk hbase
  refine wpList_step fun K hK => ?_
  rw [if_pos hgd]
  unfold Oper.wp
  simp [execOp, ho, resolve, invoke, builtin, hs, hx, hr, Result.andThen]
  exact hK _ _ (h v' w' h2 h3)
theorem StA.appendedH {B b g cap sb ten M : Nat} {w0 : World} {D : Dk} {lb : Nat → Nat} {L : Nat → Lg} {n : Nat → Nat} {tx : Nat → ByteArray} (hs : StA B w0 b g cap sb ten D M lb L n tx w) (h : HeldZ w B v k) (hg : w.grownBy w' v.ownBlock) : StA B w0 b g cap sb ten D M lb L n tx w' :=
  hs.beside (S := fun j => v.ownBlock = some j) ⟨hg.os, hg.tape, hg.output, hg.size, fun k hk hn => hg.block k hk (fun e => hn e.symm)⟩ h.muts (fun j h1 h2 => (h.law h2).notSA hs h1) (fun j h1 => (h.lt h1).1)
end
end Go.Proofs.YtilpbjcbffbjeaaGreatDoor
