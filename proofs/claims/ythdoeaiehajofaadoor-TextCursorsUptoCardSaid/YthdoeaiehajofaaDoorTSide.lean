/- Lists of cursors in memory: a slice of pointers, each to a cursor of its own. -/
import Derived.Test.YthdoeaiehajofaaDoorTLCodes
import Derived.Test.YthdoeaiehajofaaDoorTLWithin
import Derived.Test.YthdoeaiehajofaaDoorTOpen
namespace Go.Proofs.YthdoeaiehajofaaDoor
set_option linter.unusedVariables false
set_option maxRecDepth 100000
open Go.RowKit
abbrev ptr (b : Nat) : Value := .pointer (some ⟨b, 0, none⟩)
/-- Pointers of the call's own. -/
def OwnsP (w : World) (base : Nat) (T : TypeId) (v : Value) (l : List Nat) : Prop := w.ownsRow base T 1 v l.length (l.map ptr)
section
variable {w w' : World} {base : Nat} {T : TypeId} {v : Value} {l : List Nat}
theorem OwnsP.other (h : OwnsP w base T v l) {row : Option Nat} (hg : w.grownBy w' row) (hx : ∀ x, v.ownBlock = some x → row ≠ some x) : OwnsP w' base T v l := by
  rcases e : v.ownBlock with _ | x
  · exact World.ownsRow.kept h hg (.inl e)
  · exact World.ownsRow.kept h hg (.inr (fun e2 => hx x e (by rw [← e2, e])))
theorem OwnsP.below (h : OwnsP w base T v l) (hb : Below w.heap.size w w') : OwnsP w' base T v l :=
  h.other (row := none) ⟨hb.os, hb.tape, hb.output, hb.size, fun k hk _ => hb.block k hk⟩ (by simp)
theorem OwnsP.block (h : OwnsP w base T v l) {j : Nat} (hj : v.ownBlock = some j) : base ≤ j ∧ j < w.heap.size := World.ownsRow.lt h j hj
theorem OwnsP.shape (h : OwnsP w base T v l) : ∃ p cap, v = .slice p l.length cap := by
  rcases h.2 with h1 | ⟨g, cap, cur, h1, _, _⟩
  · have hl : l.length = 0 := h1.2
    exact ⟨none, 0, by rw [hl]; exact h1.1⟩
  · exact ⟨_, cap, h1⟩
theorem OwnsP.cell (h : OwnsP w base T v l) : ∀ i, i < l.length → ∃ g cap, v = .slice (some ⟨g, 0, none⟩) l.length cap ∧ w.cell? ⟨g, i, none⟩ = some (ptr (l.getD i 0)) := by
  intro i hi
  rcases h.2 with h1 | ⟨g, cap, cur, h1, _, h3, _, _, _, h7⟩
  · have hl : l.length = 0 := h1.2
    omega
  · refine ⟨g, cap, h1, ?_⟩
    rw [cell_of_row w g i _ T (0, 0) h3]
    have h8 : (l.map ptr)[i]? = some (ptr (l.getD i 0)) := by
      rw [List.getElem?_map, List.getElem?_eq_getElem hi, List.getD_eq_getElem?_getD, List.getElem?_eq_getElem hi]; rfl
    rw [← h7, Nat.mul_one, List.getElem?_take, if_pos hi] at h8
    rw [← h8]; simp
theorem OwnsP.lit (w : World) (T : TypeId) (l : List Nat) (c : Array Value) (hb : base ≤ w.heap.size) (hc : c = (l.map ptr).toArray) (hm : l.length ≤ maxLen) :
    OwnsP (w.alloc (.cells c T)) base T (.slice (some ⟨w.heap.size, 0, none⟩) l.length l.length) l := by
  subst hc
  refine ⟨by simp, .inr ⟨w.heap.size, l.length, _, rfl, hb, heap_alloc_new w _, Nat.le_refl _, hm, by simp, ?_⟩⟩
  rw [Nat.mul_one, List.take_of_length_le (by simp)]
/-- The block in which the pointers lie is one of pointers. -/
theorem OwnsP.ne (h : OwnsP w base T v l) {b T' : Nat} {cs : Array Value} {fr : Nat × Nat} (hb : w.heap[b]? = some (.cells cs T' fr)) (hT : T' ≠ T) : v.ownBlock ≠ some b := Lib.ownBlock_ne h hb hT
end
theorem wpList_append_p {P : Program} {ops : Array Oper} {rest : List Oper} {o : Oper} {a : Act} {w : World} {Q : Exit → Act → World → Prop} {base : Nat} {T : TypeId} {v : Value} {l : List Nat}
    (hgd : o.guard = none) (s x : Operand) (Ts : TypeId) (ho : o.op = .call { callee := .builtin .append, args := #[s, x], argTypes := #[Ts, Ts] })
    (ht : P.underlying Ts = some (.slice T)) (hi : (P.info? T).map (fun i => (i.zero, i.size, i.bytes)) = some (some (.pointer none), 1, 8))
    (hs : a.eval s = v) (hown : OwnsP w base T v l) (ad : Addr) (c : Nat) (hx : a.eval x = .slice (some ad) 1 c) (new : Nat) (hnew : w.cell? ad = some (ptr new)) (hsz : l.length ≤ 1099511627776) (hbase : base ≤ w.heap.size)
    (h : ∀ v' w', OwnsP w' base T v' (l ++ [new]) → w.grownBy w' v.ownBlock → (v'.ownBlock = v.ownBlock ∨ v'.ownBlock = some w.heap.size) → wpList P ops Q rest (a.put o.dst v') w') : wpList P ops Q (o :: rest) a w := by
  obtain ⟨i0, hi0, hz0, hz1, hz2⟩ := info_parts hi
  refine wpList_append_own_at w hgd s x Ts ho base T i0 (.pointer none) 1 8 ht hi0 hz0 hz1 hz2 rfl (by decide) v l.length (l.map ptr) hs hown ad 1 c [ptr new] hx rfl ?_ (by simp [Value.oneCell']) (by unfold maxLen; omega) (by omega) hbase ?_
  · intro j u hu
    cases j with
    | zero =>
      simp only [List.getElem?_cons_zero, Option.some.injEq] at hu
      rw [show ad.add 0 = ad by simp [Addr.add], hnew, hu]
    | succ j => simp at hu
  · intro v' w' h1 h2 _ h4
    refine h v' w' ?_ h2 h4
    unfold OwnsP
    rw [List.length_append, List.map_append]
    exact h1
theorem infoPC : (Tryd.prog.info? 34).map (fun i => (i.zero, i.size, i.bytes)) = some (some (.pointer none), 1, 8) := by kernel_rfl
theorem infoPR : (Tryd.prog.info? 48).map (fun i => (i.zero, i.size, i.bytes)) = some (some (.pointer none), 1, 8) := by kernel_rfl
abbrev CS := List (ByteArray × Nat)
def cz : ByteArray × Nat := (⟨#[]⟩, 0)
/-- One side: a slice of pointers to cursors. -/
structure Side (T Tp : Nat) (w : World) (base : Nat) (v : Value) (cs : CS) (X : List Nat) : Prop where
  len : X.length = cs.length
  own : OwnsP w base Tp v X
  nd : X.Nodup
  cur : ∀ j, j < cs.length → IsC w (X.getD j 0) T (cs.getD j cz).1 (cs.getD j cz).2
  base : ∀ b ∈ X, base ≤ b
section
variable {T Tp : Nat} {w w' : World} {base : Nat} {v : Value} {cs : CS} {X : List Nat}
theorem getD_mem {X : List Nat} {j : Nat} (h : j < X.length) : X.getD j 0 ∈ X := by
  rw [List.getD_eq_getElem?_getD, List.getElem?_eq_getElem h]; exact List.getElem_mem _
theorem Side.isC (h : Side T Tp w base v cs X) {b : Nat} (hb : b ∈ X) : ∃ s k, IsC w b T s k := by
  obtain ⟨j, hj, rfl⟩ := List.getElem_of_mem hb
  have := h.cur j (by rw [← h.len]; exact hj)
  rw [List.getD_eq_getElem?_getD, List.getElem?_eq_getElem hj] at this
  exact ⟨_, _, this⟩
theorem Side.below (h : Side T Tp w base v cs X) (hb : Below w.heap.size w w') : Side T Tp w' base v cs X :=
  ⟨h.len, h.own.below hb, h.nd, fun j hj => (h.cur j hj).below hb (h.cur j hj).lt, h.base⟩
theorem Side.drew (h : Side T Tp w base v cs X) : Side T Tp w.drew base v cs X := h.below (Below.refl _ _).drew
/-- Another block is written: none of this side's. -/
theorem Side.other (h : Side T Tp w base v cs X) {r : Nat} (hg : w.grownBy w' (some r)) (h1 : r ∉ X) (h2 : v.ownBlock ≠ some r) : Side T Tp w' base v cs X :=
  ⟨h.len, h.own.other hg (fun x hx e => h2 (by rw [hx, ← e])), h.nd, fun j hj => (h.cur j hj).same (hg.block _ (h.cur j hj).lt (fun e => by
    injection e with e
    exact h1 (by rw [← e]; exact getD_mem (by rw [h.len]; exact hj)))), h.base⟩
/-- A block of another type. -/
theorem Side.otherT (h : Side T Tp w base v cs X) {r T' : Nat} {c : Array Value} (hr : w.heap[r]? = some (.cells c T' (0, 0))) (hT : T' ≠ T) (hTp : T' ≠ Tp) (hg : w.grownBy w' (some r)) : Side T Tp w' base v cs X := by
  refine h.other hg (fun hm => ?_) (h.own.ne hr hTp)
  obtain ⟨s, k, hc⟩ := h.isC hm
  have := hc.blk
  rw [hr] at this
  simp only [Option.some.injEq, Obj.cells.injEq] at this
  exact hT this.2.1
/-- One cursor steps. -/
theorem Side.step (h : Side T Tp w base v cs X) (hTp : T ≠ Tp) {j : Nat} (hj : j < cs.length) (hg : w.grownBy w' (some (X.getD j 0))) {k : Nat} (hc : IsC w' (X.getD j 0) T (cs.getD j cz).1 k) : Side T Tp w' base v (cs.set j ((cs.getD j cz).1, k)) X := by
  refine ⟨by rw [List.length_set]; exact h.len, ?_, h.nd, fun i hi => ?_, h.base⟩
  · exact h.own.other hg (fun x hx e => by
      injection e with e
      exact h.own.ne (h.cur j hj).blk hTp (by rw [hx, e]))
  · rw [List.length_set] at hi
    by_cases e : i = j
    · subst e
      rw [show (cs.set i ((cs.getD i cz).1, k)).getD i cz = ((cs.getD i cz).1, k) by rw [List.getD_eq_getElem?_getD, List.getElem?_set_self hi]; rfl]
      exact hc
    · rw [show (cs.set j ((cs.getD j cz).1, k)).getD i cz = cs.getD i cz by rw [List.getD_eq_getElem?_getD, List.getElem?_set_ne (fun e2 => e e2.symm), List.getD_eq_getElem?_getD]]
      refine (h.cur i hi).same (hg.block _ (h.cur i hi).lt (fun e2 => ?_))
      injection e2 with e2
      have hi' : i < X.length := by rw [h.len]; exact hi
      have hj' : j < X.length := by rw [h.len]; exact hj
      rw [List.getD_eq_getElem?_getD, List.getElem?_eq_getElem hi', List.getD_eq_getElem?_getD, List.getElem?_eq_getElem hj'] at e2
      exact e ((List.getElem_inj h.nd).1 e2)
/-- One cursor more, whose pointer has been appended. -/
theorem Side.push (h : Side T Tp w base v cs X) {b : Nat} {s : ByteArray} {k : Nat} {v' : Value} (hb : IsC w' b T s k) (hnew : b ∉ X) (hbb : base ≤ b) (hown : OwnsP w' base Tp v' (X ++ [b])) (hc : ∀ x ∈ X, w'.heap[x]? = w.heap[x]?) : Side T Tp w' base v' (cs ++ [(s, k)]) (X ++ [b]) := by
  refine ⟨by rw [List.length_append, List.length_append, h.len]; rfl, hown, ?_, fun j hj => ?_, fun x hx => ?_⟩
  · rw [List.nodup_append]
    exact ⟨h.nd, by simp, fun a ha c hc2 e => hnew (by rw [← List.mem_singleton.1 hc2, ← e]; exact ha)⟩
  · rw [List.length_append] at hj
    by_cases e : j < cs.length
    · have hX : j < X.length := by rw [h.len]; exact e
      rw [show (X ++ [b]).getD j 0 = X.getD j 0 by rw [List.getD_eq_getElem?_getD, List.getElem?_append_left hX, List.getD_eq_getElem?_getD], show (cs ++ [(s, k)]).getD j cz = cs.getD j cz by rw [List.getD_eq_getElem?_getD, List.getElem?_append_left e, List.getD_eq_getElem?_getD]]
      exact (h.cur j e).same (hc _ (getD_mem hX))
    · have ej : j = cs.length := by simp at hj; omega
      subst ej
      rw [show (cs ++ [(s, k)]).getD cs.length cz = (s, k) by simp [List.getD_eq_getElem?_getD], show (X ++ [b]).getD cs.length 0 = b by rw [← h.len]; simp [List.getD_eq_getElem?_getD]]
      exact hb
  · rcases List.mem_append.1 hx with hx | hx
    · exact h.base x hx
    · rw [List.mem_singleton.1 hx]; exact hbb
theorem Side.pos (h : Side T Tp w base v cs X) {j : Nat} (hj : j < cs.length) : ∃ g cap, v = .slice (some ⟨g, 0, none⟩) cs.length cap ∧ w.cell? ⟨g, j, none⟩ = some (ptr (X.getD j 0)) := by
  have := h.own.cell j (by rw [h.len]; exact hj)
  rwa [h.len] at this
end
end Go.Proofs.YthdoeaiehajofaaDoor
