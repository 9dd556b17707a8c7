/- append(b, make([]byte, n)...): n noughts behind what b holds. No function of the program in sight. -/
import Derived.Test.YtilpbjcbffbjeaaGreatDoorPkA
namespace Go.Proofs.YtilpbjcbffbjeaaGreatDoor
set_option linter.unusedVariables false
open Go.RowKit
theorem zeroCells_one (z : Value) (n : Nat) : (Builtin.zeroCells #[z] n).toList = List.replicate n z := by
  refine List.ext_getElem? fun j => ?_
  by_cases h : j < n
  · simp [Builtin.zeroCells, h, Nat.mod_one]
  · rw [List.getElem?_eq_none (by simp [Builtin.zeroCells]; omega), List.getElem?_eq_none (by simp; omega)]
theorem nums_zeros (k : IntKind) (n : Nat) : nums k (List.replicate n 0) = List.replicate n (.int k 0) := by simp [nums]
section
variable {P : Program} {w : World} {base : Nat} {e : TypeId} {v : Value} {l : List Nat}
theorem run_append_zeros (t u ty : TypeId) (ku : IntKind) (ht : P.underlying t = some (.slice e)) (hu : P.underlying u = some (.int ku)) (hi : (P.info? e).map (fun i => (i.zero, i.size, i.bytes)) = some (some (.int .u8 0), 1, 1))
    (hown : Owns w base e v l) (h0 : 0 < l.length) (n : Nat) (hsz : l.length + n ≤ 140737488355328) (hbase : base ≤ w.heap.size) :
    ∃ v' w', (Builtin.append_ #[t, u] ty #[v, .int .i64 (n : Int)]).run P w = .ok v' w' ∧ Owns w' base e v' (l ++ List.replicate n 0) ∧ w.grownBy w' v.ownBlock ∧ (v'.ownBlock = v.ownBlock ∨ v'.ownBlock = some w.heap.size) := by
  obtain ⟨i0, hi0, hz0, hz1, hz2⟩ := info_parts hi
  have hown' := hown
  rcases hown.2 with ⟨_, hn⟩ | ⟨g, cap, cur, rfl, hb, hg, hnc, hcm, hcs, htake⟩
  · omega
  have hwn : IntKind.i64.wrap (n : Int) = n := IntWalk.i64_in _ (by omega)
  have hn0 : ¬ ((n : Int) < 0) := by omega
  have hn48 : ¬ (281474976710656 < (n : Int)) := by omega
  have hall : nums .u8 (l ++ List.replicate n 0) = nums .u8 l ++ List.replicate n (Value.int .u8 0) := by rw [← nums_zeros]; simp [nums]
  by_cases hroom : l.length + n ≤ cap
  · have hst := run_storeCells_at P g l.length e (List.replicate n (Value.int .u8 0)) 0 cur w hg (by rw [List.length_replicate]; omega) (by intro x hx; rw [(List.mem_replicate.1 hx).2]; rfl)
    simp only [Nat.add_zero, List.length_replicate] at hst
    have hadd : (⟨g, 0, none⟩ : Addr).add l.length = ⟨g, l.length, none⟩ := by rw [Addr.add_mid]; simp
    refine ⟨.slice (some ⟨g, 0, none⟩) (l.length + n) cap, w.setRow g (cur.toList.take l.length ++ List.replicate n (Value.int .u8 0) ++ cur.toList.drop (l.length + n)).toArray, ?_, ⟨?_, .inr ⟨g, cap, _, by simp, hb, setRow_heap w g cur _ e _ hg, by simp; omega, hcm, ?_, ?_⟩⟩,
      ⟨rfl, rfl, rfl, by simp, fun k _ hk => setRow_other w g k _ (fun e => hk (by simp [Value.ownBlock, e]))⟩, .inl rfl⟩
    · by_cases hz : n = 0
      · subst hz
        have hw0 : IntKind.i64.wrap 0 = 0 := by decide
        have hst0 : (storeCells ⟨g, l.length, none⟩ []).run P w = .ok () (w.setRow g cur) := by simpa using hst
        simp [hw0, Builtin.append_, run_underlying ht, run_underlying hu, sizeOf, typeInfo, hi0, hz1, hz2, asInt, asIntOf, hnc, hadd, hst0]
      · have hzc : Builtin.zeroCells (Value.int .u8 0).cells n = (List.replicate n (Value.int .u8 0)).toArray := by
          apply Array.ext'; rw [List.toList_toArray]; exact zeroCells_one _ _
        simp [Builtin.append_, run_underlying ht, run_underlying hu, sizeOf, typeInfo, zeroValue, hi0, hz0, hz1, hz2, asInt, asIntOf, hwn, hn0, hn48, hroom, hadd, hz, hzc, hst]
    · simp [nums]
    · simp only [List.size_toArray, List.length_append, List.length_take, List.length_drop, Array.length_toList, List.length_replicate]; omega
    · have hh : cur.toList.take l.length = nums .u8 l := by simpa using htake
      have hln : (nums .u8 l).length = l.length := length_nums _ _
      rw [hall, hh, List.toList_toArray, List.length_append, List.length_replicate, Nat.mul_one]
      exact List.take_left' (by rw [List.length_append, List.length_replicate, hln])
  · have hz : ¬ n = 0 := by omega
    have hnr : ¬ (l.length + n ≤ cap) := hroom
    have holds : ∀ j u, (nums .u8 l)[j]? = some u → w.drew.cell? ((⟨g, 0, none⟩ : Addr).add j) = some u := World.ownsRow.cells (g := g) hown' rfl
    have hfo := run_firstCells_some (P := P) w.drew 1 l.length ⟨g, 0, none⟩ l.length cap (nums .u8 l) (by simp [nums]) holds
    have h63' : ¬ (9223372036854775807 < ((l.length : Int) + (n : Int))) := by omega
    have hfit := growslice_fits (need := l.length + n) (old := cap) (bytes := 1) (by omega) (by omega)
    have h48' : ¬ (281474976710656 < Builtin.nextslicecap (l.length + n) cap) := by omega
    have hzc : Builtin.zeroCells #[Value.int .u8 0] n = (List.replicate n (Value.int .u8 0)).toArray := by
      apply Array.ext'; rw [List.toList_toArray]; exact zeroCells_one _ _
    have hge := grownCap_ge w (l.length + n) cap e
    have hcm' : grownCap w (l.length + n) cap e ≤ maxLen := grownCap_le_maxLen w (l.length + n) cap e (by unfold maxLen; omega)
    refine ⟨.slice (some ⟨w.heap.size, 0, none⟩) (l.length + n) (grownCap w (l.length + n) cap e), w.drew.alloc (.cells ((nums .u8 l ++ List.replicate n (Value.int .u8 0)).toArray ++ Builtin.zeroCells #[Value.int .u8 0] (grownCap w (l.length + n) cap e - (l.length + n))) e), ?_,
      ⟨?_, .inr ⟨w.heap.size, grownCap w (l.length + n) cap e, _, by simp, hbase, heap_alloc_new w.drew _, by simpa using hge, hcm', ?_, ?_⟩⟩, ⟨rfl, rfl, rfl, by simp, fun k hk _ => Below.heap_alloc w.drew _ k hk⟩, .inr rfl⟩
    · simp [Builtin.append_, run_underlying ht, run_underlying hu, sizeOf, typeInfo, zeroValue, hi0, hz0, hz1, hz2, asInt, asIntOf, hwn, hn0, hn48, hnr, hz, h63', h48', Question.forced, newRow, grownCap, Value.cells, hzc, hfo]
      refine congrArg (fun c => w.drew.alloc (Obj.cells c e)) ?_
      rw [← Array.append_assoc]
      congr 1
      apply Array.ext'
      simp
    · simp [nums]
    · have := zeroCells_one (.int .u8 0) (grownCap w (l.length + n) cap e - (l.length + n))
      have h2 : (Builtin.zeroCells #[Value.int .u8 0] (grownCap w (l.length + n) cap e - (l.length + n))).size = grownCap w (l.length + n) cap e - (l.length + n) := by simp [Builtin.zeroCells]
      simp only [Array.size_append, List.size_toArray, List.length_append, length_nums, List.length_replicate, h2]; omega
    · rw [hall, Array.toList_append, List.toList_toArray, List.length_append, List.length_replicate, Nat.mul_one]
      exact List.take_left' (by rw [List.length_append, List.length_replicate, length_nums])
theorem wpList_append_zeros {ops : Array Oper} {rest : List Oper} {o : Oper} {a : Act} {Q : Exit → Act → World → Prop} (hgd : o.guard = none) (s x : Operand) (t u : TypeId) (ku : IntKind) (ho : o.op = .call { callee := .builtin .append, args := #[s, x], argTypes := #[t, u] })
    (ht : P.underlying t = some (.slice e)) (hu : P.underlying u = some (.int ku)) (hi : (P.info? e).map (fun i => (i.zero, i.size, i.bytes)) = some (some (.int .u8 0), 1, 1))
    (hs : a.eval s = v) (hown : Owns w base e v l) (h0 : 0 < l.length) (n : Nat) (hx : a.eval x = .int .i64 (n : Int)) (hsz : l.length + n ≤ 140737488355328) (hbase : base ≤ w.heap.size)
    (h : ∀ v' w', Owns w' base e v' (l ++ List.replicate n 0) → w.grownBy w' v.ownBlock → (v'.ownBlock = v.ownBlock ∨ v'.ownBlock = some w.heap.size) → wpList P ops Q rest (a.put o.dst v') w') : wpList P ops Q (o :: rest) a w := by
  obtain ⟨v', w', hr, h1, h2, h3⟩ := run_append_zeros (P := P) t u o.type ku ht hu hi hown h0 n hsz hbase
  refine wpList_run hgd v' w' ?_ (h v' w' h1 h2 h3)
  unfold execOp
  simp only [ho, resolve, invoke, builtin, Sem.run_bind, Sem.run_pure, Result.andThen_ok, List.map_toArray, List.map_cons, List.map_nil, hs, hx, hr]
end
end Go.Proofs.YtilpbjcbffbjeaaGreatDoor
