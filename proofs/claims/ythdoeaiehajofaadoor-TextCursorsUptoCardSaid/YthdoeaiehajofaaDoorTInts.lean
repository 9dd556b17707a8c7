/- Rows of integers of the call's own: any kind; append. -/
import Derived.Test.YthdoeaiehajofaaDoorStep
import Derived.Test.YthdoeaiehajofaaDoorTUni
import Derived.Test.YthdoeaiehajofaaDoorTAs
namespace Go.Proofs.YthdoeaiehajofaaDoor
set_option linter.unusedVariables false
open Go.RowKit
/-- Integers of the call's own. -/
def OwnsZ (w : World) (base : Nat) (T : TypeId) (k : IntKind) (v : Value) (l : List Int) : Prop := w.ownsRow base T 1 v l.length (l.map (Value.int k))
section
variable {w w' : World} {base : Nat} {T : TypeId} {k : IntKind} {v : Value} {l : List Int}
theorem OwnsZ.nil (w : World) (base : Nat) (T : TypeId) (k : IntKind) : OwnsZ w base T k (.slice none 0 0) [] := World.ownsRow_nil w base T 1
theorem OwnsZ.alloc (h : OwnsZ w base T k v l) (o : Obj) : OwnsZ (w.alloc o) base T k v l := World.ownsRow.alloc h o
theorem OwnsZ.block (h : OwnsZ w base T k v l) {j : Nat} (hj : v.ownBlock = some j) : base ≤ j ∧ j < w.heap.size := World.ownsRow.lt h j hj
theorem OwnsZ.grown {row : Option Nat} (h : OwnsZ w base T k v l) (hg : w.grownBy w' row) (hne : v.ownBlock = none ∨ v.ownBlock ≠ row) : OwnsZ w' base T k v l := World.ownsRow.kept h hg hne
theorem OwnsZ.below (h : OwnsZ w base T k v l) (hb : Below w.heap.size w w') : OwnsZ w' base T k v l :=
  h.grown (row := none) ⟨hb.os, hb.tape, hb.output, hb.size, fun k hk _ => hb.block k hk⟩ (by cases v.ownBlock <;> simp)
theorem OwnsZ.drew (h : OwnsZ w base T k v l) : OwnsZ w.drew base T k v l := h.below (Below.refl _ _).drew
theorem OwnsZ.shape (h : OwnsZ w base T k v l) : ∃ p cap, v = .slice p l.length cap := by
  rcases h.2 with h1 | ⟨g, cap, cur, h1, _, _⟩
  · have hl : l.length = 0 := h1.2
    exact ⟨none, 0, by rw [hl]; exact h1.1⟩
  · exact ⟨_, cap, h1⟩
theorem OwnsZ.lit (w : World) (T : TypeId) (k : IntKind) (l : List Int) (c : Array Value) (hb : base ≤ w.heap.size) (hc : c = (l.map (Value.int k)).toArray) (hm : l.length ≤ maxLen) :
    OwnsZ (w.alloc (.cells c T)) base T k (.slice (some ⟨w.heap.size, 0, none⟩) l.length l.length) l := by
  subst hc
  refine ⟨by simp, .inr ⟨w.heap.size, l.length, _, rfl, hb, heap_alloc_new w _, Nat.le_refl _, hm, ?_, ?_⟩⟩
  · simp
  · rw [Nat.mul_one, List.take_of_length_le (by simp)]
theorem OwnsZ.cell (h : OwnsZ w base T k v l) : ∀ i, i < l.length → ∃ g cap, v = .slice (some ⟨g, 0, none⟩) l.length cap ∧ w.cell? ⟨g, i, none⟩ = some (.int k (l.getD i 0)) := by
  intro i hi
  rcases h.2 with h1 | ⟨g, cap, cur, h1, _, h3, _, _, _, h7⟩
  · have hl : l.length = 0 := h1.2
    omega
  · refine ⟨g, cap, h1, ?_⟩
    rw [cell_of_row w g i _ T (0, 0) h3]
    have h8 : (l.map (Value.int k))[i]? = some (.int k (l.getD i 0)) := by
      rw [List.getElem?_map, List.getElem?_eq_getElem hi, List.getD_eq_getElem?_getD, List.getElem?_eq_getElem hi]; rfl
    rw [← h7, Nat.mul_one, List.getElem?_take, if_pos hi] at h8
    rw [← h8]; simp
end
theorem wpList_append_z {P : Program} {ops : Array Oper} {rest : List Oper} {o : Oper} {a : Act} {w : World} {Q : Exit → Act → World → Prop} {base : Nat} {T : TypeId} {k : IntKind} {v : Value} {l : List Int} {by8 : Nat}
    (hgd : o.guard = none) (s x : Operand) (Ts : TypeId) (ho : o.op = .call { callee := .builtin .append, args := #[s, x], argTypes := #[Ts, Ts] })
    (ht : P.underlying Ts = some (.slice T)) (hi : (P.info? T).map (fun i => (i.zero, i.size, i.bytes)) = some (some (.int k 0), 1, by8)) (h8 : by8 ≤ 8)
    (hs : a.eval s = v) (hown : OwnsZ w base T k v l) (ad : Addr) (m c : Nat) (news : List Int) (hx : a.eval x = .slice (some ad) m c) (hm : news.length = m)
    (hnews : ∀ j, j < m → w.cell? (ad.add j) = some (.int k (news.getD j 0))) (hsz : l.length + m ≤ 1099511627776) (hbase : base ≤ w.heap.size)
    (h : ∀ v' w', OwnsZ w' base T k v' (l ++ news) → w.grownBy w' v.ownBlock → (v'.ownBlock = v.ownBlock ∨ v'.ownBlock = some w.heap.size) → wpList P ops Q rest (a.put o.dst v') w') : wpList P ops Q (o :: rest) a w := by
  obtain ⟨i0, hi0, hz0, hz1, hz2⟩ := info_parts hi
  refine wpList_append_own_at w hgd s x Ts ho base T i0 (.int k 0) 1 by8 ht hi0 hz0 hz1 hz2 rfl (by decide) v l.length (l.map (.int k)) hs hown ad m c (news.map (.int k)) hx (by rw [List.length_map]; omega) ?_ (by simp [Value.oneCell']) (by unfold maxLen; omega)
    (Nat.le_trans (Nat.mul_le_mul_left _ h8) (by omega)) hbase ?_
  · intro j u hu
    have hj : j < news.length := by rw [← List.length_map (f := Value.int k)]; exact (List.getElem?_eq_some_iff.1 hu).1
    rw [hnews j (by omega), ← hu]
    rw [List.getElem?_map, List.getElem?_eq_getElem hj, List.getD_eq_getElem?_getD, List.getElem?_eq_getElem hj]; rfl
  · intro v' w' h1 h2 _ h4
    refine h v' w' ?_ h2 h4
    unfold OwnsZ
    rw [List.length_append, hm, List.map_append]
    exact h1
theorem infoI32 : (Tryd.prog.info? 21).map (fun i => (i.zero, i.size, i.bytes)) = some (some (.int .i32 0), 1, 4) := by kernel_rfl
theorem infoI64 : (Tryd.prog.info? 3).map (fun i => (i.zero, i.size, i.bytes)) = some (some (.int .i64 0), 1, 8) := by kernel_rfl
theorem infoU8 : (Tryd.prog.info? 5).map (fun i => (i.zero, i.size, i.bytes)) = some (some (.int .u8 0), 1, 1) := by kernel_rfl
end Go.Proofs.YthdoeaiehajofaaDoor
