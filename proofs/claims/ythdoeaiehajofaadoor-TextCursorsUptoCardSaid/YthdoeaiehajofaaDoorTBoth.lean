/- Both sides of TextCursors, and what its arms leave. -/
import Derived.Test.YthdoeaiehajofaaDoorTSide
import Derived.Test.YthdoeaiehajofaaDoorTRCur
import Derived.Deep.CutBlock
import Derived.Deep.DeepCutAuto
import Derived.IntWalk
namespace Go.Proofs.YthdoeaiehajofaaDoor
set_option linter.unusedVariables false
set_option maxRecDepth 100000
open Go.RowKit
theorem Ops.below {w w' : World} {v : Value} {os : List Opc} (h : Ops w v os) (hb : Below w.heap.size w w') : Ops w' v os := by
  obtain ⟨p, cap, rfl, hc⟩ := h
  refine ⟨p, cap, rfl, fun i hi => ?_⟩
  obtain ⟨b, off, hp, h0, h1, h2⟩ := hc i hi
  have k := fun (a : Addr) (v : Value) (hc : w.cell? a = some v) => (hb.cell (block_lt_of_cell hc)).trans hc
  exact ⟨b, off, hp, k _ _ h0, k _ _ h1, k _ _ h2⟩
/-- Both sides. -/
structure Both (w wr : World) (n0 : Nat) (vx vy : Value) (cs : CS) (X Y : List Nat) : Prop where
  x : Side 70 34 wr n0 vx cs X
  y : Side 50 48 wr n0 vy cs Y
  bel : Below n0 w wr
  z : n0 ≤ wr.heap.size
theorem Both.below {w wr w' : World} {n0 : Nat} {vx vy : Value} {cs : CS} {X Y : List Nat} (h : Both w wr n0 vx vy cs X Y) (hb : Below wr.heap.size wr w') : Both w w' n0 vx vy cs X Y :=
  ⟨h.x.below hb, h.y.below hb, h.bel.trans (hb.mono h.z), Nat.le_trans h.z hb.size⟩
theorem Both.start (w : World) (s : ByteArray) (hs : s.size ≤ 4611686018427387904) :
    Both w ((((w.alloc (.cells #[.string s, .int .i64 0] 70)).alloc (.cells #[ptr w.heap.size] 34)).alloc (.cells #[.string s, .int .i64 0] 50)).alloc (.cells #[ptr (w.heap.size + 1 + 1)] 48)) w.heap.size
      (.slice (some ⟨w.heap.size + 1, 0, none⟩) 1 1) (.slice (some ⟨w.heap.size + 1 + 1 + 1, 0, none⟩) 1 1) [(s, 0)] [w.heap.size] [w.heap.size + 1 + 1] := by
  have b1 : Below w.heap.size w (w.alloc (.cells #[.string s, .int .i64 0] 70)) := (Below.refl _ _).alloc (Nat.le_refl _) _
  have h1 : IsC (w.alloc (.cells #[.string s, .int .i64 0] 70)) w.heap.size 70 s 0 := IsC.new w _ s hs
  have o1 : OwnsP ((w.alloc (.cells #[.string s, .int .i64 0] 70)).alloc (.cells #[ptr w.heap.size] 34)) w.heap.size 34 (.slice (some ⟨w.heap.size + 1, 0, none⟩) 1 1) [w.heap.size] := by
    have := OwnsP.lit (base := w.heap.size) (w.alloc (.cells #[.string s, .int .i64 0] 70)) 34 [w.heap.size] #[ptr w.heap.size] (by rw [szA]; omega) rfl (by show 1 ≤ maxLen; decide)
    rw [szA] at this
    exact this
  have h2 : IsC ((((w.alloc (.cells #[.string s, .int .i64 0] 70)).alloc (.cells #[ptr w.heap.size] 34)).alloc (.cells #[.string s, .int .i64 0] 50))) (w.heap.size + 1 + 1) 50 s 0 := by
    have := IsC.new ((w.alloc (.cells #[.string s, .int .i64 0] 70)).alloc (.cells #[ptr w.heap.size] 34)) 50 s hs
    rw [szA, szA] at this
    exact this
  have o2 : OwnsP ((((w.alloc (.cells #[.string s, .int .i64 0] 70)).alloc (.cells #[ptr w.heap.size] 34)).alloc (.cells #[.string s, .int .i64 0] 50)).alloc (.cells #[ptr (w.heap.size + 1 + 1)] 48)) w.heap.size 48 (.slice (some ⟨w.heap.size + 1 + 1 + 1, 0, none⟩) 1 1) [w.heap.size + 1 + 1] := by
    have := OwnsP.lit (base := w.heap.size) (((w.alloc (.cells #[.string s, .int .i64 0] 70)).alloc (.cells #[ptr w.heap.size] 34)).alloc (.cells #[.string s, .int .i64 0] 50)) 48 [w.heap.size + 1 + 1] #[ptr (w.heap.size + 1 + 1)] (by rw [szA, szA, szA]; omega) rfl (by show 1 ≤ maxLen; decide)
    rw [szA, szA, szA] at this
    exact this
  have al := fun (u : World) (o : Obj) => (Below.refl u.heap.size u).alloc (Nat.le_refl _) o
  refine ⟨⟨rfl, (o1.below (al _ _)).below (al _ _), by simp, fun j hj => ?_, fun b hb => ?_⟩, ⟨rfl, o2, by simp, fun j hj => ?_, fun b hb => ?_⟩, (((b1.alloc (by simp) _).alloc (by simp; omega) _).alloc (by simp; omega) _), by simp; omega⟩
  · obtain rfl : j = 0 := by simpa using hj
    have h0 := (h1.below (al _ (.cells #[ptr w.heap.size] 34)) h1.lt)
    have h3 := h0.below (al _ (.cells #[.string s, .int .i64 0] 50)) h0.lt
    exact h3.below (al _ (.cells #[ptr (w.heap.size + 1 + 1)] 48)) h3.lt
  · simp at hb; omega
  · obtain rfl : j = 0 := by simpa using hj
    exact h2.below (al _ _) h2.lt
  · simp at hb; omega
theorem Side.shape {T Tp : Nat} {w : World} {base : Nat} {v : Value} {cs : CS} {X : List Nat} (h : Side T Tp w base v cs X) : ∃ p c, v = .slice p cs.length c := by
  have := h.own.shape
  rwa [h.len] at this
theorem Both.drew {w wr : World} {n0 : Nat} {vx vy : Value} {cs : CS} {X Y : List Nat} (h : Both w wr n0 vx vy cs X Y) : Both w wr.drew n0 vx vy cs X Y := h.below (Below.refl _ _).drew
theorem Both.stepX {w wr w1 : World} {n0 : Nat} {vx vy : Value} {cs : CS} {X Y : List Nat} (h : Both w wr n0 vx vy cs X Y) {k m : Nat} (hk : k < cs.length) (hg : wr.grownBy w1 (some (X.getD k 0))) (hc : IsC w1 (X.getD k 0) 70 (cs.getD k cz).1 m) :
    Side 70 34 w1 n0 vx (cs.set k ((cs.getD k cz).1, m)) X ∧ Side 50 48 w1 n0 vy cs Y ∧ Below n0 w w1 ∧ n0 ≤ w1.heap.size :=
  ⟨h.x.step (by decide) hk hg hc, h.y.otherT (h.x.cur k hk).blk (by decide) (by decide) hg, h.bel.grown hg h.z (fun b hb => by injection hb with hb; rw [← hb]; exact h.x.base _ (getD_mem (by rw [h.x.len]; exact hk))), Nat.le_trans h.z hg.size⟩
theorem Both.stepY {w w1 w2 : World} {n0 : Nat} {vx vy : Value} {cs : CS} {X Y : List Nat} {k m : Nat} (hx : Side 70 34 w1 n0 vx (cs.set k ((cs.getD k cz).1, m)) X) (hy : Side 50 48 w1 n0 vy cs Y) (hbe : Below n0 w w1) (hz : n0 ≤ w1.heap.size)
    (hk : k < cs.length) (hg : w1.grownBy w2 (some (Y.getD k 0))) (hc : IsC w2 (Y.getD k 0) 50 (cs.getD k cz).1 m) : Both w w2 n0 vx vy (cs.set k ((cs.getD k cz).1, m)) X Y :=
  ⟨hx.otherT (hy.cur k hk).blk (by decide) (by decide) hg, hy.step (by decide) hk hg hc, hbe.grown hg hz (fun b hb => by injection hb with hb; rw [← hb]; exact hy.base _ (getD_mem (by rw [hy.len]; exact hk))), Nat.le_trans hz hg.size⟩
theorem Side.otherRow {T Tp T2 : Nat} {w w' : World} {base b2 : Nat} {v u : Value} {cs : CS} {X L : List Nat} (h : Side T Tp w base v cs X) (hu : OwnsP w b2 T2 u L) (h1 : T2 ≠ T) (h2 : T2 ≠ Tp) (hg : w.grownBy w' u.ownBlock) : Side T Tp w' base v cs X := by
  rcases hu.2 with ⟨e, _⟩ | ⟨g, cap, cur, e, _, hgg, _⟩
  · subst e
    exact h.below ⟨hg.os, hg.tape, hg.output, hg.size, fun k hk => hg.block k hk (by simp [Value.ownBlock])⟩
  · subst e
    exact h.otherT hgg h1 h2 hg
theorem OwnsP.grew {w w' : World} {n0 b2 : Nat} {u : Value} {T2 : TypeId} {L : List Nat} {W : World} (hu : OwnsP w b2 T2 u L) (hb : Below n0 W w) (hz : n0 ≤ w.heap.size) (hg : w.grownBy w' u.ownBlock) (hn : n0 ≤ b2) : Below n0 W w' :=
  hb.grown hg hz (fun k hk => Nat.le_trans hn (hu.block hk).1)
theorem Both.pushX {w w2 w4 : World} {n0 c m : Nat} {t : ByteArray} {vx vy v' : Value} {cs : CS} {X Y : List Nat} (h : Both w w2 n0 vx vy cs X Y) (hc : IsC w2 c 70 t m) (hn : c ∉ X) (hcb : n0 ≤ c)
    (ho : OwnsP w4 n0 34 v' (X ++ [c])) (hg : (w2.alloc (.cells #[ptr c] 34)).grownBy w4 vx.ownBlock) :
    Side 70 34 w4 n0 v' (cs ++ [(t, m)]) (X ++ [c]) ∧ Side 50 48 w4 n0 vy cs Y ∧ Below n0 w w4 ∧ n0 ≤ w4.heap.size := by
  have h3 := h.below ((Below.refl _ _).alloc (Nat.le_refl _) (.cells #[ptr c] 34))
  have hc3 := hc.below ((Below.refl _ _).alloc (Nat.le_refl _) (.cells #[ptr c] 34)) hc.lt
  refine ⟨h.x.push (hc3.same (hg.block c hc3.lt (fun e => h3.x.own.ne hc3.blk (by decide) e.symm))) hn hcb ho (fun x hx => ?_), h3.y.otherRow h3.x.own (by decide) (by decide) hg, h3.x.own.grew h3.bel h3.z hg (Nat.le_refl _), Nat.le_trans h3.z hg.size⟩
  obtain ⟨s', k', hx'⟩ := h3.x.isC hx
  obtain ⟨s2, k2, hx2⟩ := h.x.isC hx
  rw [hg.block x hx'.lt (fun e => h3.x.own.ne hx'.blk (by decide) e.symm)]
  exact Below.heap_alloc _ _ _ hx2.lt
theorem Both.pushY {w w5 w7 : World} {n0 b m : Nat} {t : ByteArray} {vx vy v' : Value} {cs : CS} {X Y : List Nat} (hx : Side 70 34 w5 n0 vx (cs ++ [(t, m)]) X) (hy : Side 50 48 w5 n0 vy cs Y) (hbe : Below n0 w w5) (hz : n0 ≤ w5.heap.size)
    (hc : IsC w5 b 50 t m) (hn : b ∉ Y) (hcb : n0 ≤ b) (ho : OwnsP w7 n0 48 v' (Y ++ [b])) (hg : (w5.alloc (.cells #[ptr b] 48)).grownBy w7 vy.ownBlock) :
    Both w w7 n0 vx v' (cs ++ [(t, m)]) X (Y ++ [b]) := by
  have al : Below w5.heap.size w5 (w5.alloc (.cells #[ptr b] 48)) := (Below.refl _ _).alloc (Nat.le_refl _) _
  have hy3 := hy.below al
  have hx3 := hx.below al
  have hc3 := hc.below al hc.lt
  refine ⟨hx3.otherRow hy3.own (by decide) (by decide) hg, hy.push (hc3.same (hg.block b hc3.lt (fun e => hy3.own.ne hc3.blk (by decide) e.symm))) hn hcb ho (fun x hx => ?_), hy3.own.grew (hbe.trans (al.mono hz)) (Nat.le_trans hz al.size) hg (Nat.le_refl _), Nat.le_trans (Nat.le_trans hz al.size) hg.size⟩
  obtain ⟨s', k', hx'⟩ := hy3.isC hx
  obtain ⟨s2, k2, hx2⟩ := hy.isC hx
  rw [hg.block x hx'.lt (fun e => hy3.own.ne hx'.blk (by decide) e.symm)]
  exact Below.heap_alloc _ _ _ hx2.lt
theorem and255 (x : Int) (h1 : -9223372036854775808 ≤ x) (h2 : x ≤ 9223372036854775807) : bits .and .i64 x 255 = ((x % 256).toNat : Int) := by
  show IntKind.i64.wrap ((BitVec.ofInt 64 x &&& BitVec.ofInt 64 255).toNat : Int) = _
  rw [BitVec.toNat_and, BitVec.toNat_ofInt, show (BitVec.ofInt 64 255).toNat = 2 ^ 8 - 1 by decide, Nat.and_two_pow_sub_one_eq_mod]
  rw [IntWalk.i64_in _ (by omega)]
  omega
theorem mod_eq (on : Int) (n : Nat) (hn : 0 < n) : ∃ k : Nat, k < n ∧ ((0 ≤ on.tmod n ∧ on.tmod n = k) ∨ (on.tmod n < 0 ∧ on.tmod n + n = k)) := by
  rcases Int.lt_or_le (on.tmod n) 0 with h | h
  · have h1 : -(n : Int) < on.tmod n := by
      have := Int.lt_tmod_of_pos on (show (0 : Int) < (n : Int) by omega)
      exact this
    exact ⟨(on.tmod n + n).toNat, by omega, .inr ⟨h, by omega⟩⟩
  · have h1 : on.tmod n < n := Int.tmod_lt_of_pos on (by omega)
    exact ⟨(on.tmod n).toNat, by omega, .inl ⟨h, by omega⟩⟩
/-- What an arm leaves. -/
abbrev ArmRel (w : World) (n : Nat) (v5 v6 v10 v11 v12 v13 : Value) (wx : World) : Prop := ∃ (cs' : CS) (X' Y' : List Nat) (t : ByteArray) (e : Int), v10 = .string t ∧ v11 = .string t ∧ v12 = .int .i64 e ∧ v13 = .int .i64 e ∧ 1 ≤ cs'.length ∧ cs'.length ≤ n + 1 ∧ Both w wx w.heap.size v5 v6 cs' X' Y'
/-- A block of a text. -/
def findBlock (n : Nat) : Code → Option Code
  | .block m c => if m = n then some (.block m c) else findBlock n c
  | .seq a b => match findBlock n a with
    | some c => some c
    | none => findBlock n b
  | .loop c => findBlock n c
  | .scope c => findBlock n c
  | .cond _ a b => match findBlock n a with
    | some c => some c
    | none => findBlock n b
  | _ => none
noncomputable def blk2 : Code := ((Tryd.f9.body.bind (findBlock 2)).getD .skip)
end Go.Proofs.YthdoeaiehajofaaDoor
