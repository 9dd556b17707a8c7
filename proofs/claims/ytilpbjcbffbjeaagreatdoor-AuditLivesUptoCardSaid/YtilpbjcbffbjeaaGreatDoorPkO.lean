/- The audit log's Dead.
   Appends to strings of the call's own whose block's cells behind them are empty strings: rows of strings that are not empty stay as they are.
   What the law AuditLives keeps in memory and of the disk; copies of strings; begins. -/
import Derived.Test.YtilpbjcbffbjeaaGreatDoorPkK
import Derived.Test.YtilpbjcbffbjeaaGreatDoorWThin
import Derived.Test.YtilpbjcbffbjeaaGreatDoorAFixed
import Derived.Deep.Upon
namespace Go.Proofs.YtilpbjcbffbjeaaGreatDoor
set_option linter.unusedVariables false
set_option maxRecDepth 100000
open Go.RowKit
theorem adeadW {w : World} {b : Nat} {l : ALog} (h : IsALog w b l) : Calls Tryz.prog 30 #[.pointer (some ⟨b, 0, none⟩)] w fun e w' => e = .returned (.bool l.dead) ∧ w' = w := by
  have h5 := h.c5
  clear h
  go_enter Tryz.func30, Tryz.ntmps30
  go_wp2_with fail
  go_ret
  exact ⟨rfl, rfl⟩
end Go.Proofs.YtilpbjcbffbjeaaGreatDoor
namespace Go.Proofs.YtilpbjcbffbjeaaGreatDoor
set_option linter.unusedVariables false
set_option maxRecDepth 100000
open Go.RowKit
/-- An own row of strings; the cells behind them are empty strings. -/
structure OwnsZ (w : World) (base : Nat) (v : Value) (ss : List ByteArray) : Prop where
  own : OwnsS w base v ss
  zt : ∀ g cap cur, v = .slice (some ⟨g, 0, none⟩) ss.length cap → w.heap[g]? = some (.cells cur 9 (0, 0)) → ∀ i, ss.length ≤ i → i < cap → cur[i]? = some (.string ⟨#[]⟩)
theorem zeroStr (k i : Nat) (h : i < k) : (Builtin.zeroCells (Value.string ⟨#[]⟩).cells k)[i]? = some (.string ⟨#[]⟩) := by
  unfold Builtin.zeroCells
  simp [Value.cells, Nat.mod_one, h]
theorem OwnsZ.nil (w : World) (base : Nat) : OwnsZ w base (.slice none 0 0) [] := ⟨World.ownsRow_nil _ _ _ _, fun g cap cur h => by simp at h⟩
theorem OwnsZ.emptyW (w : World) : OwnsZ (w.alloc (.cells #[] 9)) w.heap.size (.slice (some ⟨w.heap.size, 0, none⟩) 0 0) [] :=
  ⟨⟨rfl, .inr ⟨w.heap.size, 0, _, rfl, Nat.le_refl _, heap_alloc_new w _, Nat.le_refl _, Nat.zero_le _, rfl, by simp⟩⟩, fun g cap cur h _ i hi hc => by
    simp only [Value.slice.injEq] at h
    omega⟩
theorem OwnsZ.same {w w' : World} {base : Nat} {v : Value} {ss : List ByteArray} (h : OwnsZ w base v ss) (e : ∀ k, v.ownBlock = some k → w'.heap[k]? = w.heap[k]?) : OwnsZ w' base v ss := by
  refine ⟨⟨h.own.1, ?_⟩, fun g cap cur hv hg => h.zt g cap cur hv (by rw [← e g (by rw [hv]; rfl)]; exact hg)⟩
  rcases h.own.2 with q | ⟨g, cap, cur, rfl, q2, q3, q4⟩
  · exact .inl q
  · exact .inr ⟨g, cap, cur, rfl, q2, (e g rfl).trans q3, q4⟩
theorem OwnsZ.lt {w : World} {base k : Nat} {v : Value} {ss : List ByteArray} (h : OwnsZ w base v ss) (hk : v.ownBlock = some k) : base ≤ k ∧ k < w.heap.size := World.ownsRow.lt h.own k hk
theorem OwnsZ.below {w w' : World} {base : Nat} {v : Value} {ss : List ByteArray} (h : OwnsZ w base v ss) (hb : Below w.heap.size w w') : OwnsZ w' base v ss := h.same fun k hk => hb.block k (h.lt hk).2
theorem OwnsZ.typ {w : World} {base k : Nat} {v : Value} {ss : List ByteArray} (h : OwnsZ w base v ss) (hk : v.ownBlock = some k) : ∃ cur, w.heap[k]? = some (.cells cur 9 (0, 0)) := by
  rcases h.own.2 with ⟨rfl, _⟩ | ⟨g, cap, cur, rfl, _, hg, _⟩
  · cases hk
  · injection hk with hk
    subst hk
    exact ⟨cur, hg⟩
theorem OwnsZ.chg {S : Nat → Prop} {w w' : World} {base : Nat} {v : Value} {ss : List ByteArray} (h : OwnsZ w base v ss) (hc : Chg S w w') (hm : Muts S w) : OwnsZ w' base v ss := by
  refine h.same fun k hk => ?_
  obtain ⟨cur, hg⟩ := h.typ hk
  exact hc.block k (h.lt hk).2 (fun hS => hm k (h.lt hk).2 hS _ _ _ hg (.inl rfl))
theorem OwnsZ.base {w : World} {base base' : Nat} {v : Value} {ss : List ByteArray} (h : OwnsZ w base v ss) (hb : base' ≤ base) : OwnsZ w base' v ss := ⟨row_base h.own hb, h.zt⟩
theorem OwnsZ.ws {w : World} {base : Nat} {v : Value} {ss : List ByteArray} (h : OwnsZ w base v ss) : WS w v ss := h.own.ws
theorem OwnsZ.shape {w : World} {base : Nat} {v : Value} {ss : List ByteArray} (h : OwnsZ w base v ss) : ∃ p cap, v = .slice p ss.length cap := by
  obtain ⟨p, cap, e, _⟩ := h.ws.form
  exact ⟨p, cap, e⟩
theorem ws_keepAll {w w' : World} (hk : ∀ k, k < w.heap.size → w'.heap[k]? = w.heap[k]?) (u : Value) (us : List ByteArray) (hu : WS w u us) : WS w' u us := by
  refine ⟨hu.1, ?_⟩
  rcases hu.2 with q | ⟨g, cap, cur, q1, q2, q3, q4⟩
  · exact .inl q
  · exact .inr ⟨g, cap, cur, q1, q2, (hk g (Array.getElem?_eq_some_iff.1 q3).1).trans q3, q4⟩
theorem ws_apart {w w' : World} {row : Option Nat} (hg : w.grownBy w' row) {u : Value} {us : List ByteArray} (hu : WS w u us) (hne : ∀ k, u.ownBlock = some k → row ≠ some k) : WS w' u us := by
  refine ⟨hu.1, ?_⟩
  rcases hu.2 with q | ⟨g, cap, cur, q1, q2, q3, q4⟩
  · exact .inl q
  · exact .inr ⟨g, cap, cur, q1, q2, (hg.block g (Array.getElem?_eq_some_iff.1 q3).1 (fun e => hne g (by rw [q1]; rfl) e.symm)).trans q3, q4⟩
theorem run_append_z (w : World) (base : Nat) (ty : TypeId) (v : Value) (ss news : List ByteArray) (h : OwnsZ w base v ss) (ad : Addr) (m c : Nat) (hm : news.length = m)
    (hnew : ∀ j, j < m → w.cell? (ad.add j) = some (.string (news.getD j ⟨#[]⟩))) (hsz : ss.length + m ≤ 2097152) (hbase : base ≤ w.heap.size) :
    ∃ v' w', (Builtin.append_ #[28, 28] ty #[v, .slice (some ad) m c]).run Tryz.prog w = .ok v' w' ∧ OwnsZ w' base v' (ss ++ news) ∧ w.grownBy w' v.ownBlock ∧ (v'.ownBlock = v.ownBlock ∨ v'.ownBlock = some w.heap.size) ∧
      (∀ u us, WS w u us → (∀ s ∈ us, 0 < s.size) → WS w' u us) := by
  obtain ⟨i0, hi0, hz0, hz1, hz2⟩ := info_parts infoStr
  have hne : ∀ j u, (news.map Value.string)[j]? = some u → w.cell? (ad.add j) = some u := by
    intro j u hu
    have hj : j < news.length := by have := (List.getElem?_eq_some_iff.1 hu).1; rwa [List.length_map] at this
    rw [List.getElem?_map, List.getElem?_eq_getElem hj] at hu
    rw [hnew j (by omega), List.getD_eq_getElem?_getD, List.getElem?_eq_getElem hj]
    exact hu
  have h1c : ∀ u ∈ news.map Value.string, u.oneCell' = true := by
    intro u hu
    obtain ⟨s, _, rfl⟩ := List.mem_map.1 hu
    rfl
  have hml : (news.map Value.string).length = m * 1 := by rw [List.length_map, Nat.mul_one, hm]
  have hown0 : w.ownsRow base 9 1 v ss.length (ss.map Value.string) := h.own
  obtain ⟨v', w', hr, h2, h3, h4, h5⟩ := run_append_own_at (P := Tryz.prog) w base 28 ty 9 i0 (.string ⟨#[]⟩) 1 16 Tryz.underlying28 hi0 hz0 hz1 hz2 rfl (by decide) v ss.length (ss.map Value.string) hown0 ad m c (news.map Value.string) hml hne h1c (by unfold maxLen; omega) (by omega) hbase
  have hO : OwnsS w' base v' (ss ++ news) := by
    unfold OwnsS
    rw [List.length_append, List.map_append, hm]
    exact h2
  refine ⟨v', w', hr, ⟨hO, ?_⟩, h3, h5, ?_⟩
  · intro g cap cur hv hg i hi hic
    rw [List.length_append, hm] at hi
    rcases hown0.2 with ⟨rfl, hn⟩ | ⟨g0, cap0, cur0, rfl, hbg, hg0, hnc, hcm, hcs, htake⟩
    · have hss : ss = [] := List.eq_nil_of_length_eq_zero hn
      subst hss
      by_cases h0 : m = 0
      · have := h4.2 ⟨rfl, h0⟩
        rw [this] at hv
        simp at hv
      · have hr2 := run_append_nil (P := Tryz.prog) w 28 ty 9 i0 (.string ⟨#[]⟩) Tryz.underlying28 hi0 hz0 ad m c (news.map Value.string) (by rw [hz1]; exact hml) hne (by omega) (by omega) (by rw [hz2]; omega)
        rw [hr] at hr2
        injection hr2 with e1 e2
        subst e1 e2
        simp only [Value.slice.injEq, Option.some.injEq, Addr.mk.injEq] at hv
        obtain ⟨⟨rfl, _⟩, _, rfl⟩ := hv
        replace hg : (w.drew.alloc _).heap[w.drew.heap.size]? = _ := hg
        rw [heap_alloc_new w.drew] at hg
        injection hg with hg
        injection hg with hg _ _
        subst hg
        rw [Array.getElem?_append_right (by simp [hm]; simpa using hi)]
        simp only [List.size_toArray, List.length_map, hm]
        exact zeroStr _ _ (by simp only [List.length_nil, Nat.zero_add] at hi; omega)
    · by_cases hroom : ss.length + m ≤ cap0
      · have hfit : ss.length * i0.size + (news.map Value.string).length ≤ cur0.size := by rw [hz1, hcs, hml]; simpa using hroom
        have hr2 := run_append_room (P := Tryz.prog) w 28 ty 9 i0 Tryz.underlying28 hi0 g0 ss.length cap0 cur0 hg0 ad m c (news.map Value.string) (by rw [hz1]; exact hml) hne h1c hroom hfit
        rw [hr] at hr2
        injection hr2 with e1 e2
        subst e1 e2
        simp only [Value.slice.injEq, Option.some.injEq, Addr.mk.injEq] at hv
        obtain ⟨⟨rfl, _⟩, _, rfl⟩ := hv
        rw [setRow_heap w g0 cur0 _ 9 _ hg0] at hg
        injection hg with hg
        injection hg with hg _ _
        subst hg
        have h9 := h.zt g0 cap0 cur0 rfl hg0 i (by omega) hic
        rw [hz1] at hfit
        simp only [Nat.mul_one, List.length_map, hm] at hfit
        rw [hz1]
        simp only [List.getElem?_toArray, Nat.mul_one]
        rw [List.getElem?_append_right (by simp [hm]; omega), List.getElem?_drop]
        simp only [List.length_append, List.length_take, List.length_map, Array.length_toList, hm]
        rw [show ss.length + m + (i - (min ss.length cur0.size + m)) = i by omega]
        rw [Array.getElem?_toList]
        exact h9
      · have holds : ∀ j u, (ss.map Value.string)[j]? = some u → w.cell? ((⟨g0, 0, none⟩ : Addr).add j) = some u := hown0.cells (g := g0) rfl
        have hr2 := run_append_grow (P := Tryz.prog) w 28 ty 9 i0 (.string ⟨#[]⟩) Tryz.underlying28 hi0 hz0 ⟨g0, 0, none⟩ ss.length cap0 (ss.map Value.string) (by rw [hz1, List.length_map, Nat.mul_one]) holds ad m c (news.map Value.string) (by rw [hz1]; exact hml) hne (by omega) (by omega) (growslice_fits (by omega) (by rw [hz2]; omega))
        rw [hr] at hr2
        injection hr2 with e1 e2
        subst e1 e2
        simp only [Value.slice.injEq, Option.some.injEq, Addr.mk.injEq] at hv
        obtain ⟨⟨rfl, _⟩, _, rfl⟩ := hv
        replace hg : (w.drew.alloc _).heap[w.drew.heap.size]? = _ := hg
        rw [heap_alloc_new w.drew] at hg
        injection hg with hg
        injection hg with hg _ _
        subst hg
        rw [Array.getElem?_append_right (by simp [hm]; omega)]
        simp only [List.size_toArray, List.length_map, Array.size_append, hm]
        exact zeroStr _ _ (by omega)
  · intro u us hu hpos
    rcases hown0.2 with ⟨rfl, hn⟩ | ⟨g0, cap0, cur0, rfl, hbg, hg0, hnc, hcm, hcs, htake⟩
    · exact ws_keepAll (fun k hk => h3.block k hk (by simp [Value.ownBlock])) u us hu
    · by_cases hroom : ss.length + m ≤ cap0
      · have hfit : ss.length * i0.size + (news.map Value.string).length ≤ cur0.size := by rw [hz1, hcs, hml]; simpa using hroom
        have hr2 := run_append_room (P := Tryz.prog) w 28 ty 9 i0 Tryz.underlying28 hi0 g0 ss.length cap0 cur0 hg0 ad m c (news.map Value.string) (by rw [hz1]; exact hml) hne h1c hroom hfit
        rw [hr] at hr2
        injection hr2 with e1 e2
        subst e1 e2
        refine ⟨hu.1, ?_⟩
        rcases hu.2 with q | ⟨g', cap', cur', q1, q2, q3, q4, q5, q6, q7⟩
        · exact .inl q
        · by_cases hgg : g' = g0
          · subst hgg
            rw [hg0] at q3
            injection q3 with q3
            injection q3 with q3 _ _
            subst q3
            have hle : us.length ≤ ss.length := by
              refine Nat.le_of_not_lt fun hlt => ?_
              rw [List.length_map] at q4
              have h9 := h.zt g' cap0 cur0 rfl hg0 ss.length (Nat.le_refl _) (by omega)
              have h8 : (cur0.toList.take (us.length * 1))[ss.length]? = (us.map Value.string)[ss.length]? := by
                have e := congrArg (fun l => l[ss.length]?) q7
                simpa using e
              rw [List.getElem?_take, if_pos (by omega), Array.getElem?_toList, h9, List.getElem?_map, List.getElem?_eq_getElem hlt] at h8
              simp only [Option.map_some, Option.some.injEq, Value.string.injEq] at h8
              have := hpos _ (List.getElem_mem hlt)
              rw [← h8] at this
              exact absurd this (by decide)
            refine .inr ⟨g', cap', _, q1, q2, setRow_heap w g' cur0 _ 9 _ hg0, q4, q5, ?_, ?_⟩
            · simp only [List.size_toArray, List.length_append, List.length_take, List.length_drop, Array.length_toList]
              rw [hz1] at hfit ⊢
              simp at hfit ⊢
              omega
            · refine Eq.trans ?_ q7
              rw [hz1]
              simp only [List.take_append, List.length_take, Array.length_toList]
              rw [List.take_take, Nat.min_eq_left (by rw [List.length_map]; omega)]
              have hz : (us.map Value.string).length * 1 - min (ss.length * 1) cur0.size = 0 := by
                rw [hcs, List.length_map, Nat.min_eq_left (by omega)]; omega
              rw [hz]
              simp only [Nat.mul_one] at hle hcs
              simp
              exact .inl (by omega)
          · exact .inr ⟨g', cap', cur', q1, q2, (setRow_other w g0 g' _ hgg).trans q3, q4, q5, q6, q7⟩
      · have holds : ∀ j u, (ss.map Value.string)[j]? = some u → w.cell? ((⟨g0, 0, none⟩ : Addr).add j) = some u := hown0.cells (g := g0) rfl
        have hr2 := run_append_grow (P := Tryz.prog) w 28 ty 9 i0 (.string ⟨#[]⟩) Tryz.underlying28 hi0 hz0 ⟨g0, 0, none⟩ ss.length cap0 (ss.map Value.string) (by rw [hz1, List.length_map, Nat.mul_one]) holds ad m c (news.map Value.string) (by rw [hz1]; exact hml) hne (by omega) (by omega) (growslice_fits (by omega) (by rw [hz2]; omega))
        rw [hr] at hr2
        injection hr2 with _ e2
        subst e2
        exact ws_keepAll (fun k hk => Below.heap_alloc w.drew _ k hk) u us hu
/-- append of strings to an own row whose tail is empty strings. -/
theorem wpList_append_z {ops : Array Oper} {rest : List Oper} {o : Oper} {a : Act} {w : World} {Q : Exit → Act → World → Prop} {base : Nat} {v : Value} {ss news : List ByteArray}
    (hgd : Region.wanted o (yielded ops a.tmps) = true) (s x : Operand) (ho : o.op = .call { callee := .builtin .append, args := #[s, x], argTypes := #[28, 28] })
    (hs : a.eval s = v) (hown : OwnsZ w base v ss) (ad : Addr) (m c : Nat) (hx : a.eval x = .slice (some ad) m c) (hm : news.length = m)
    (hnew : ∀ j, j < m → w.cell? (ad.add j) = some (.string (news.getD j ⟨#[]⟩))) (hsz : ss.length + m ≤ 2097152) (hbase : base ≤ w.heap.size)
    (h : ∀ v' w', OwnsZ w' base v' (ss ++ news) → w.grownBy w' v.ownBlock → (v'.ownBlock = v.ownBlock ∨ v'.ownBlock = some w.heap.size) → (∀ u us, WS w u us → (∀ s ∈ us, 0 < s.size) → WS w' u us) → wpList Tryz.prog ops Q rest (a.put o.dst v') w') : wpList Tryz.prog ops Q (o :: rest) a w := by
  obtain ⟨v', w', hr, h2, h3, h4, h5⟩ := run_append_z w base o.type v ss news hown ad m c hm hnew hsz hbase
  refine wpList_step fun K hK => ?_
  rw [if_pos hgd]
  unfold Oper.wp
  simp [execOp, ho, resolve, invoke, builtin, hs, hx, hr, Result.andThen]
  exact hK _ _ (h v' w' h2 h3 h4 h5)
theorem Chg.of_own {w w' : World} {v : Value} (hg : w.grownBy w' v.ownBlock) : Chg (fun k => v.ownBlock = some k) w w' :=
  ⟨hg.os, hg.tape, hg.output, hg.size, fun k hk hn => hg.block k hk (fun e => hn e.symm)⟩
/-- No write that waits is empty. -/
def FullW (D : Dk) : Prop := ∀ j, j < D.l.length → ∀ s ∈ (D.l.getD j Fl.zero).ws, 0 < s.size
theorem OwnsZ.other {w w' : World} {base : Nat} {v : Value} {ss : List ByteArray} (h : OwnsZ w base v ss) (hg : w.grownBy w' v.ownBlock) {k : Nat} {cur : Array Value} {T : TypeId} {fr : Nat × Nat} (hb : w.heap[k]? = some (Obj.cells cur T fr)) (hT : T ≠ 9) : w'.heap[k]? = w.heap[k]? := by
  refine hg.block k (Array.getElem?_eq_some_iff.1 hb).1 (fun e => ?_)
  obtain ⟨cur', h1⟩ := h.typ e.symm
  rw [hb] at h1
  injection h1 with h1
  injection h1 with _ h2 _
  exact hT h2
theorem IsDisk.appendedZ {b g cap : Nat} {w w' : World} {D : Dk} {base : Nat} {v : Value} {ss : List ByteArray} (h : IsDisk w b g cap D) (hown : OwnsZ w base v ss) (hg : w.grownBy w' v.ownBlock)
    (hk : ∀ u us, WS w u us → (∀ s ∈ us, 0 < s.size) → WS w' u us) (hF : FullW D) : IsDisk w' b g cap D := by
  have hc := Chg.of_own hg
  have hm : ∀ T, T ≠ 9 → ∀ k, k < w.heap.size → v.ownBlock = some k → ∀ cur fr, w.heap[k]? ≠ some (.cells cur T fr) := by
    intro T hT k _ hkk cur fr hb
    obtain ⟨cur', h1⟩ := hown.typ hkk
    rw [hb] at h1
    injection h1 with h1
    injection h1 with _ h2 _
    exact hT h2
  obtain ⟨cv, h1, us, h2, h3, h4⟩ := h.blk
  refine ⟨⟨cv, (hown.other hg h1 (by decide)).trans h1, us, h2, h3.keepT hc (hm _ (by decide)), fun i hi => Row1.keepT (h4 i hi) hc (hm _ (by decide))⟩, ?_⟩
  obtain ⟨cur, hb, hs⟩ := h.fs.blk
  have eb := hown.other hg hb (by decide)
  have ec : ∀ j, w'.cell? ⟨g, j, none⟩ = w.cell? ⟨g, j, none⟩ := fun j => World.cell?_of_block eb
  refine ⟨⟨cur, eb.trans hb, hs⟩, h.fs.capm, h.fs.len, fun i hi => (ec _).trans (h.fs.safe i hi), fun i hi => ?_⟩
  obtain ⟨u, h5, h6⟩ := h.fs.ws i hi
  exact ⟨u, (ec _).trans h5, hk u _ h6 (hF i hi)⟩
theorem IsALog.appendedZ {lb : Nat} {w w' : World} {l : ALog} {base : Nat} {v : Value} {ss : List ByteArray} (h : IsALog w lb l) (hown : OwnsZ w base v ss) (hg : w.grownBy w' v.ownBlock) : IsALog w' lb l := h.same (hown.other hg h (by decide))
theorem At.appendedZ {B b g cap : Nat} {w0 w w' : World} {D : Dk} {v : Value} {ss : List ByteArray} (h : At B w0 b g cap D w) (hown : OwnsZ w B v ss) (hg : w.grownBy w' v.ownBlock)
    (hk : ∀ u us, WS w u us → (∀ s ∈ us, 0 < s.size) → WS w' u us) (hF : FullW D) : At B w0 b g cap D w' :=
  ⟨h.disk.appendedZ hown hg hk hF, h.below.grown hg (by have := h.below.size; have := h.le; omega) (fun k hk => (hown.lt hk).1), h.bB, h.gB, h.le⟩
theorem recW_pos : ∀ (ps : List (List Nat)) (k : Nat), ∀ r ∈ recW k ps, 0 < r.length
  | [], _, r, h => by cases h
  | p :: ps, k, r, h => by
    rcases List.mem_cons.1 h with rfl | h
    · rw [length_recL]; omega
    · exact recW_pos ps _ r h
theorem AC.fullW {x : Fl} {ss : List ByteArray} {k : Nat} (h : AC x ss k) : ∀ s ∈ x.ws, 0 < s.size := by
  intro s hs
  have h1 : bs s ∈ x.ws.map bs := List.mem_map_of_mem hs
  rw [h.ws] at h1
  have := recW_pos _ _ _ h1
  rwa [length_bs] at this
theorem AliveA.fullW {D D' : Dk} {f k : Nat} {ss : List ByteArray} (a : AliveA D D' f) (h : FullW D) (hx : AC (D'.l.getD f Fl.zero) ss k) : FullW D' := by
  intro j hj
  rw [a.len] at hj
  by_cases e : j = f
  · subst e; exact hx.fullW
  · rw [a.other j e]; exact h j hj
theorem fullW_zero (n : Nat) : FullW (dk0 (List.replicate n Fl.zero)) := by
  intro j hj s hs
  rw [show (dk0 (List.replicate n Fl.zero)).l = List.replicate n Fl.zero from rfl, getD_zeros] at hs
  cases hs
/-- A log whose texts do not lie in the block N. -/
def AFr (N : Option Nat) (w : World) (lb b f : Nat) (quota : Int) (ss : List ByteArray) (dead : Bool) : Prop :=
  ∃ v, IsALog w lb ⟨⟨b, 0, none⟩, (f : Nat), quota, v, strOf (linkL (ss.map bs)), dead⟩ ∧ WS w v ss ∧ ∀ k, v.ownBlock = some k → N ≠ some k
theorem WS.ltB {w : World} {v : Value} {ss : List ByteArray} (h : WS w v ss) {k : Nat} (hk : v.ownBlock = some k) : k < w.heap.size := by
  rcases h.2 with ⟨rfl, _⟩ | ⟨g, cap, cur, rfl, _, q3, _⟩
  · cases hk
  · injection hk with hk
    subst hk
    exact (Array.getElem?_eq_some_iff.1 q3).1
theorem IsAL.fr {N : Option Nat} {w : World} {lb b f : Nat} {quota : Int} {ss : List ByteArray} {dd : Bool} (h : IsAL w lb b f quota ss dd) (hN : ∀ k, N = some k → w.heap.size ≤ k) : AFr N w lb b f quota ss dd := by
  obtain ⟨v, h1, h2⟩ := h
  exact ⟨v, h1, h2, fun k hk e => absurd (h2.ltB hk) (by have := hN k e; omega)⟩
theorem AFr.al {N : Option Nat} {w : World} {lb b f : Nat} {quota : Int} {ss : List ByteArray} {dd : Bool} (h : AFr N w lb b f quota ss dd) : IsAL w lb b f quota ss dd := by
  obtain ⟨v, h1, h2, _⟩ := h
  exact ⟨v, h1, h2⟩
theorem AFr.below {N : Option Nat} {w w' : World} {lb b f : Nat} {quota : Int} {ss : List ByteArray} {dd : Bool} (h : AFr N w lb b f quota ss dd) (hb : Below w.heap.size w w') : AFr N w' lb b f quota ss dd := by
  obtain ⟨v, h1, h2, h3⟩ := h
  exact ⟨v, h1.below hb h1.lt, h2.below hb, h3⟩
theorem AFr.appendedZ {base : Nat} {w w' : World} {lb b f : Nat} {quota : Int} {ss us : List ByteArray} {dd : Bool} {v v' : Value} (h : AFr v.ownBlock w lb b f quota ss dd) (hown : OwnsZ w base v us) (hg : w.grownBy w' v.ownBlock) (hv : v'.ownBlock = v.ownBlock ∨ v'.ownBlock = some w.heap.size) : AFr v'.ownBlock w' lb b f quota ss dd := by
  obtain ⟨u, h1, h2, h3⟩ := h
  refine ⟨u, h1.appendedZ hown hg, ⟨h2.1, ?_⟩, fun k hk e => ?_⟩
  · rcases h2.2 with q | ⟨g, cap, cur, q1, q2, q3, q4⟩
    · exact .inl q
    · exact .inr ⟨g, cap, cur, q1, q2, (hg.block g (Array.getElem?_eq_some_iff.1 q3).1 (fun e => h3 g (by rw [q1]; rfl) e.symm)).trans q3, q4⟩
  · rcases hv with hv | hv
    · exact h3 k hk (hv ▸ e)
    · rw [hv] at e
      injection e with e
      have := h2.ltB hk
      omega
section
variable {B b g cap lb f k : Nat} {w0 w w' : World} {quota : Int} {ss : List ByteArray} {D D' : Dk}
/-- A text that is taken: the log's texts lie in a new block. -/
theorem ASt.appF (h : ASt B w0 b g cap lb f quota ss k D w) (T : ByteArray) (hr0 : aRes quota ss T = 0) :
    Calls Tryz.prog 17 #[.pointer (some ⟨lb, 0, none⟩), .string T] w fun e w' => e = .returned (.int .i64 0) ∧ ∃ D', ASt B w0 b g cap lb f quota (ss ++ [T]) k D' w' ∧ Chg (fun k => k = lb ∨ k = b ∨ k = g) w w' ∧ AliveA D D' f ∧ ∀ N : Option Nat, (∀ k, N = some k → k < w.heap.size) → AFr N w' lb b f quota (ss ++ [T]) false := by
  have hz := h.hz
  have hT : T.size ≤ 1024 ∧ ¬ aroom quota (zT ss) < (T.size : Int) := by
    unfold aRes at hr0
    split at hr0
    · cases hr0
    · split at hr0
      · cases hr0
      · exact ⟨by omega, by assumption⟩
  rw [← hz] at hT
  have hM := h.log.muts3 h.on.disk
  have hn := h.log.ne h.on.disk
  have hfew := h.n
  have hx := h.ac
  have hf := h.hf
  have hat := h.on
  obtain ⟨v, h1, h2⟩ := h.log
  have hrm := aroom_le hT.2
  have hq := h.q
  have hlk : (strOf (linkL (ss.map bs))).size = 32 := by rw [size_strOf, length_linkL]
  have hbl : bs (strOf (linkL (ss.map bs))) = linkL (ss.map bs) := bs_strOf _ (linkL_lt _)
  have e51 : (recS (ss.length + 1) (T ++ strOf (nextL (linkL (ss.map bs)) (bs T)))).size = 51 + T.size := by rw [size_recS, ByteArray.size_append, size_strOf, length_nextL]; omega
  have hnx : strOf (linkL ((ss ++ [T]).map bs)) = strOf (nextL (linkL (ss.map bs)) (bs T)) := by rw [List.map_append, List.map_singleton, linkL_snoc]
  have hap := hx.app T (by omega)
  have hm := h.few.many
  rcases writeX_c h.ok h.al f (recS (ss.length + 1) (T ++ strOf (nextL (linkL (ss.map bs)) (bs T)))) hf (by rw [e51]; omega) (hm f hf) with ⟨D', e, hl⟩ | ⟨D', e, hl⟩
  · refine (aappendOk (T := T) h1 (h2.txA hM) (by omega) h.on.disk h.ok hm hn hf rfl rfl hq rfl hlk (by omega) (by show (T.size : Int) ≤ aroom quota _; omega) (by rw [hbl, e])).mono ?_
    rintro e' w' ⟨q1, v', q2, q3, q4, q5⟩
    rw [hbl, e] at q4
    rw [hbl] at q2
    have hac : AC (D'.l.getD f Fl.zero) (ss ++ [T]) k := by rw [hl.l, getD_set_self _ _ _ _ hf]; exact hap
    have ha := hl.aliveA
    exact ⟨q1, D', ⟨hat.chg3 q4 h.lB q5, ⟨v', by rw [hnx]; exact q2, q3.ws⟩, hl.ok, hl.al, ha.ar h.ar, by rw [ha.len]; exact hf, hac, hq, h.lB, ha.few h.few hac hf⟩, q5, ha, fun N hN => ⟨v', by rw [hnx]; exact q2, q3.ws, fun k hk e => by have h1 := World.ownsRow.lt q3 k hk; have h2 := hN k e; omega⟩⟩
  · exact absurd h.ar hl.ar
/-- A text that is too long: nothing changes. -/
theorem ASt.appL (h : ASt B w0 b g cap lb f quota ss k D w) (T : ByteArray) (hT : 1024 < T.size) :
    Calls Tryz.prog 17 #[.pointer (some ⟨lb, 0, none⟩), .string T] w fun e w' => e = .returned (.int .i64 190) ∧ w' = w := by
  obtain ⟨v, h1, h2⟩ := h.log
  exact aappendLong h1 rfl T hT
/-- Behind an append to strings of the call's own, elsewhere than the log's texts. -/
theorem ASt.appendedZ {us : List ByteArray} {v : Value} (h : ASt B w0 b g cap lb f quota ss k D w) (hF : AFr v.ownBlock w lb b f quota ss false) (hown : OwnsZ w B v us) (hg : w.grownBy w' v.ownBlock)
    (hk : ∀ u us, WS w u us → (∀ s ∈ us, 0 < s.size) → WS w' u us) (hW : FullW D) : ASt B w0 b g cap lb f quota ss k D w' :=
  ⟨h.on.appendedZ hown hg hk hW, (hF.appendedZ hown hg (v' := v) (.inl rfl)).al, h.ok, h.al, h.ar, h.hf, h.ac, h.q, h.lB, h.few⟩
end
section
variable {P : Program} {Q : Exit → Act → World → Prop} {md : Region.Mode} {S : World → Prop} {n : Nat}
/-- An operation that makes memory, below n. -/
theorem runU (i : Nat) {l : List Oper} {o : Oper} {r : List Oper} {fuel : Nat} {listed : Array Bool} {a : Act} {w : World} {v : Value} {w' : World} (hi : l.drop i = o :: r) (hin : decide (i < n) = true) (hw : Region.wanted o (yielded l.toArray a.tmps) = true)
    (hrun : (execOp a.eval o).run P w = .ok (.value v) w')
    (h : S w' ∧ wpAnyU P md l.toArray n Q S fuel (listed.setIfInBounds i true) (a.put o.dst v) w') :
    if i < n then wpOp P l.toArray Q i (fun a' w' => S w' ∧ wpAnyU P md l.toArray n Q S fuel (listed.setIfInBounds i true) a' w') a w else wpOp P l.toArray Q i (wpAny P md l.toArray Q fuel (listed.setIfInBounds i true)) a w := by
  refine someU i hi hin ?_
  rw [if_pos hw]
  unfold Oper.wp
  rw [hrun]
  exact h
end
end Go.Proofs.YtilpbjcbffbjeaaGreatDoor
namespace Go.Proofs.YtilpbjcbffbjeaaGreatDoor
set_option linter.unusedVariables false
set_option maxRecDepth 100000
open Go.RowKit
/-- A slice's block is none of S, where it has elements. -/
def ApartS (S : Nat → Prop) (v : Value) (ss : List ByteArray) : Prop := ∀ a n c, v = .slice (some a) n c → 0 < ss.length → ¬ S a.block
theorem Strs.keepA {S : Nat → Prop} {w w' : World} {v : Value} {ss : List ByteArray} (h : Strs w v ss) (ha : ApartS S v ss) (hc : Chg S w w') : Strs w' v ss := by
  obtain ⟨p, cap, rfl, hcell⟩ := h.form
  refine Strs.mk fun i hi => ?_
  obtain ⟨b, off, rfl, hb⟩ := hcell i hi
  exact ⟨b, off, rfl, (World.cell?_of_block (a := ⟨b, off + i, none⟩) (hc.block b (block_lt_of_cell hb) (ha ⟨b, off, none⟩ _ _ rfl (by omega)))).trans hb⟩
theorem Strs.blk {w : World} {v : Value} {ss : List ByteArray} (h : Strs w v ss) {a : Addr} {n c : Nat} (hv : v = .slice (some a) n c) (h0 : 0 < ss.length) : a.block < w.heap.size := by
  obtain ⟨p, cap, e, hcell⟩ := h.form
  obtain ⟨b, off, hp, hb⟩ := hcell 0 h0
  rw [e] at hv
  injection hv with h1
  rw [hp] at h1
  injection h1 with h1
  rw [← h1]
  exact block_lt_of_cell hb
/-- A copy of strings. -/
theorem run_copyZ {w : World} (ty : TypeId) (x : Value) (ns : List ByteArray) (hx : Strs w x ns) (hsz : ns.length ≤ 2097152) :
    ∃ v' w', (Builtin.append_ #[28, 28] ty #[.slice (some ⟨w.heap.size, 0, none⟩) 0 0, x]).run Tryz.prog (w.alloc (.cells #[] 9)) = .ok v' w' ∧ OwnsZ w' w.heap.size v' ns ∧ Below w.heap.size w w' := by
  obtain ⟨i0, hi0, hz0, hz1, hz2⟩ := info_parts infoStr
  have hbw : Below w.heap.size w (w.alloc (.cells #[] 9)) := (Below.refl _ _).alloc (Nat.le_refl _) _
  have hx1 := hx.below hbw
  obtain ⟨p, c, rfl, hc⟩ := hx1.form
  rcases Nat.eq_zero_or_pos ns.length with h0 | h0
  · have hn : ns = [] := List.length_eq_zero_iff.1 h0
    subst hn
    refine ⟨_, _, run_append_nothing _ 28 28 ty 9 i0 Tryz.underlying28 hi0 _ 0 0 (Nat.le_refl _) _ ?_, OwnsZ.emptyW w, hbw⟩
    rcases p with _ | a
    · exact Src.ofNil _ Tryz.underlying28 c
    · exact Src.ofSlice _ Tryz.underlying28 a 0 c [] (by simp) (fun j u hu => by simp at hu) (fun u hu => by cases hu)
  · obtain ⟨b, off, rfl, _⟩ := hc 0 h0
    obtain ⟨v', w', h1, h2, h3, _, _⟩ := run_append_z (w.alloc (.cells #[] 9)) w.heap.size ty (.slice (some ⟨w.heap.size, 0, none⟩) 0 0) [] ns (OwnsZ.emptyW w) ⟨b, off, none⟩ ns.length c rfl (fun j hj => by
      obtain ⟨b', off', e, h9⟩ := hc j hj
      injection e with e
      injection e with e1 e2 _
      subst e1 e2
      have e3 : (⟨b, off, none⟩ : Addr).add j = ⟨b, off + j, none⟩ := by
        unfold Addr.add
        by_cases hj0 : j = 0
        · subst hj0; rfl
        · simp [hj0]
      rw [e3]
      exact h9) (by simpa using hsz) (by simp)
    exact ⟨v', w', h1, h2, hbw.grown h3 (by simp) (fun k hk => (OwnsZ.emptyW w).lt hk |>.1)⟩
theorem wpList_copy_z {ops : Array Oper} {rest : List Oper} {o : Oper} {a : Act} {w : World} {Q : Exit → Act → World → Prop} {x : Value} {ns : List ByteArray}
    (hgd : Region.wanted o (yielded ops a.tmps) = true) (s y : Operand) (ho : o.op = .call { callee := .builtin .append, args := #[s, y], argTypes := #[28, 28] })
    (hs : a.eval s = .slice (some ⟨w.heap.size, 0, none⟩) 0 0) (hy : a.eval y = x) (hx : Strs w x ns) (hsz : ns.length ≤ 2097152)
    (h : ∀ v' w', OwnsZ w' w.heap.size v' ns → Below w.heap.size w w' → wpList Tryz.prog ops Q rest (a.put o.dst v') w') : wpList Tryz.prog ops Q (o :: rest) a (w.alloc (.cells #[] 9)) := by
  obtain ⟨v', w', hr, h2, h3⟩ := run_copyZ o.type x ns hx hsz
  refine wpList_step fun K hK => ?_
  rw [if_pos hgd]
  unfold Oper.wp
  simp [execOp, ho, resolve, invoke, builtin, hs, hy, hr, Result.andThen]
  exact hK _ _ (h v' w' h2 h3)
/-- Is a row the beginning of another one: it is. -/
theorem lbeginsW (u v : Value) (ss ts : List ByteArray) (w : World) (hu : Strs w u ss) (hv : Strs w v ts) (h1 : ts.length ≤ 1048576) (hb : ss = ts.take ss.length) (hl : ss.length ≤ ts.length) (hcap : ∀ p n c, v = .slice p n c → n ≤ c) :
    Calls Tryz.prog 31 #[u, v] w fun e w' => e = .returned (.bool true) ∧ Below w.heap.size w w' := by
  obtain ⟨p, c, rfl, hp⟩ := hu.form
  obtain ⟨q, d, rfl, hq⟩ := hv.form
  obtain ⟨n, hn⟩ : ∃ n, n = ss.length := ⟨_, rfl⟩
  obtain ⟨m, hm⟩ : ∃ m, m = ts.length := ⟨_, rfl⟩
  rw [← hn] at hl hb ⊢
  rw [← hm] at hl h1 hcap ⊢
  have hi : ¬ (m : Int) < (n : Int) := by omega
  have hcut : Strs w (.slice q n d) ss := by
    have e : ss.length = n := hn.symm
    have hk : Strs w (.slice q ss.length d) ss := Strs.mk fun i hi => by
      obtain ⟨b, off, hb1, hb2⟩ := hq i (by omega)
      refine ⟨b, off, hb1, ?_⟩
      rw [hb2, hb, List.getD_eq_getElem?_getD, List.getD_eq_getElem?_getD, List.getElem?_take, if_pos (by omega)]
    rwa [e] at hk
  have HC := Lib.hid hcut
  have hs1 : ss.length ≤ 1048576 := by omega
  have HSM := Lib.hid (sameW _ _ ss ss w hu hcut hs1 hs1)
  rw [decide_eq_true rfl, ← hn] at HSM
  have hle : (n : Int) ≤ (d : Int) := by have := hcap _ _ _ rfl; omega
  clear hcap
  clear hu hv hp hq hcut hb hn hm
  go_enter Tryz.func31, Tryz.ntmps31
  go_wp2_with fail
  refine HSM.out.mono ?_
  rintro e w1 ⟨rfl, hb⟩
  go_wp2_with fail
  go_ret
  exact ⟨rfl, hb⟩
theorem row_fresh {w : World} {base K cap : Nat} {a : Addr} {xs : List Value} {T : TypeId} {s : Nat} (h : w.ownsRow base T s (.slice (some a) K cap) K xs) : base ≤ a.block := by
  rcases h.2 with ⟨h1, _⟩ | ⟨g, cp, cur, h1, hg, _⟩
  · simp at h1
  · simp only [Value.slice.injEq, Option.some.injEq] at h1
    rw [h1.1]; exact hg
/-- A clone of strings lies in a new block. -/
theorem cloneStrsF {w : World} {v : Value} {ss : List ByteArray} (h : Strs w v ss) (hl : ss.length ≤ 1048576) :
    Calls Tryz.prog 66 #[v] w fun e w' => ∃ p cap, e = .returned (.slice p ss.length cap) ∧ ss.length ≤ cap ∧ cap ≤ 9223372036854775807 ∧ (∀ c, Strs w' (.slice p ss.length c) ss) ∧ (∀ a, p = some a → w.heap.size ≤ a.block) ∧ Below w.heap.size w w' := by
  obtain ⟨p, cap, rfl, hc⟩ := h.form
  rcases p with _ | a
  · have h0 : ss = [] := by
      rcases ss with _ | ⟨s, ss⟩
      · rfl
      · obtain ⟨b, off, e, _⟩ := hc 0 (by simp)
        cases e
    subst h0
    refine (Tryz.slices_Clone_string_nil _ _ w).mono fun e w' ⟨h1, h2⟩ => ⟨none, 0, h1, Nat.le_refl _, by decide, (fun c => Strs.mk (fun i hi => by simp at hi)), (fun a h => by cases h), (by rw [h2]; exact Below.refl _ _)⟩
  · by_cases h0 : ss = []
    · subst h0
      refine (Tryz.slices_Clone_string_zero a cap w).mono ?_
      rintro e w' ⟨v', rfl, hr, _, hb⟩
      obtain ⟨p, cp, rfl⟩ := rowShape hr
      exact ⟨p, cp, rfl, (own_cap hr).1, (own_cap hr).2, fun c => Strs.mk (fun i hi => by simp at hi), fun a h => by subst h; exact row_fresh hr, hb⟩
    · have hpos : 0 < ss.length := List.length_pos_iff.2 h0
      obtain ⟨b, off, e, _⟩ := hc 0 hpos
      obtain rfl := Option.some.inj e
      refine (Tryz.slices_Clone_string b off ss.length cap ss w (Nat.le_refl _) (by omega) (fun j hj => by
        obtain ⟨b', off', e', hcell⟩ := hc j hj
        cases e'
        exact hcell)).mono ?_
      rintro e w' ⟨v', rfl, hr, _, hb⟩
      rw [List.take_length] at hr
      obtain ⟨p, cp, rfl⟩ := rowShape hr
      exact ⟨p, cp, rfl, (own_cap hr).1, (own_cap hr).2, fun c => strs_own hr rfl (Below.refl _ _), fun a h => by subst h; exact row_fresh hr, hb⟩
theorem atextsF {w : World} {lb : Nat} {l : ALog} {ss : List ByteArray} (h : IsALog w lb l) (hv : Strs w l.v ss) (hl : ss.length ≤ 1048576) :
    Calls Tryz.prog 23 #[.pointer (some ⟨lb, 0, none⟩)] w fun e w' => ∃ p, e = .returned (.slice p ss.length ss.length) ∧ Strs w' (.slice p ss.length ss.length) ss ∧ (∀ a, p = some a → w.heap.size ≤ a.block) ∧ Below w.heap.size w w' := by
  have h3 := h.c3
  have HC := Lib.hid (cloneStrsF hv hl)
  have HCL := Lib.hid (fun p K cap w h1 h2 => clipW p K cap w h1 h2)
  obtain ⟨K, hK⟩ : ∃ K, ss.length = K := ⟨_, rfl⟩
  rw [hK] at HC ⊢
  clear h hv hl hK
  go_enter Tryz.func23, Tryz.ntmps23
  go_wp2_with fail
  refine HC.out.mono ?_
  rintro e w1 ⟨p, cap, rfl, k1, k2, hs, hfr, hb⟩
  have HS := Lib.hid (hs K)
  have HFR := Lib.hid hfr
  clear hs hfr
  go_wp2_with fail
  refine (HCL.out p K cap _ k1 k2).mono ?_
  rintro e w2 ⟨rfl, rfl⟩
  go_wp2_with fail
  go_ret
  exact ⟨p, rfl, HS.out, HFR.out, hb⟩
section
variable {w : World} {lb b g cap f k : Nat} {quota : Int} {ss : List ByteArray} {D : Dk} {N : Option Nat}
theorem AFr.keep {S : Nat → Prop} {w' : World} {dd : Bool} (h : AFr N w lb b f quota ss dd) (hc : Chg S w w') (hn : ¬ S lb) (hm : Muts S w) : AFr N w' lb b f quota ss dd := by
  obtain ⟨v, h1, h2, h3⟩ := h
  exact ⟨v, h1.keep hc hn, h2.keep hc hm, h3⟩
/-- A text is laid down, whether the power goes or not; the log's texts lie elsewhere than N. -/
theorem aappF (h : AFr N w lb b f quota ss false) (hN : ∀ k, N = some k → k < w.heap.size) (hd : IsDisk w b g cap D) (hok : DOk D) (al : D.dead = false) (hf : f < D.l.length) (hx : AC (D.l.getD f Fl.zero) ss k) (hm : Many D) (hq : 0 ≤ quota ∧ quota ≤ 262144) (T : ByteArray) :
    Calls Tryz.prog 17 #[.pointer (some ⟨lb, 0, none⟩), .string T] w fun e w' => ∃ r D' ss' dd, e = .returned (.int .i64 r) ∧ AFr N w' lb b f quota ss' dd ∧ IsDisk w' b g cap D' ∧ Chg (fun k => k = lb ∨ k = b ∨ k = g) w w' ∧ AAppR D f quota ss k T r D' ss' dd := by
  have hM := h.al.muts3 hd
  have hn := h.al.ne hd
  obtain ⟨v, h1, h2, h3⟩ := h
  have hfew := hx.few (hok.size f hf)
  by_cases hT : 1024 < T.size
  · exact (aappendLong h1 rfl T hT).mono fun e w' ⟨q1, q2⟩ => ⟨190, D, ss, false, q1, q2 ▸ ⟨v, h1, h2, h3⟩, q2 ▸ hd, q2 ▸ Chg.refl _ _, .long hT⟩
  by_cases hr : aroom quota (rd (D.l.getD f Fl.zero)).size < (T.size : Int)
  · exact (aappendFull h1 rfl hd hok hf rfl rfl hq T (by omega) hr).mono fun e w' ⟨q1, q2⟩ => ⟨191, D, ss, false, q1, ⟨v, h1.below q2 h1.lt, h2.below q2, h3⟩, hd.below q2, Chg.of_below _ q2, .full (by omega) hr⟩
  have hrm := aroom_le hr
  have hlk : (strOf (linkL (ss.map bs))).size = 32 := by rw [size_strOf, length_linkL]
  have hbl : bs (strOf (linkL (ss.map bs))) = linkL (ss.map bs) := bs_strOf _ (linkL_lt _)
  have e51 : (recS (ss.length + 1) (T ++ strOf (nextL (linkL (ss.map bs)) (bs T)))).size = 51 + T.size := by rw [size_recS, ByteArray.size_append, size_strOf, length_nextL]; omega
  have hnx : strOf (linkL ((ss ++ [T]).map bs)) = strOf (nextL (linkL (ss.map bs)) (bs T)) := by rw [List.map_append, List.map_singleton, linkL_snoc]
  have hap := hx.app T (by omega)
  rcases writeX_c hok al f (recS (ss.length + 1) (T ++ strOf (nextL (linkL (ss.map bs)) (bs T)))) hf (by rw [e51]; omega) (hm f hf) with ⟨D', e, hl⟩ | ⟨D', e, hl⟩
  · refine (aappendOk (T := T) h1 (h2.txA hM) (by omega) hd hok hm hn hf rfl rfl hq rfl hlk (by omega) (by show (T.size : Int) ≤ aroom quota _; omega) (by rw [hbl, e])).mono ?_
    rintro e' w' ⟨q1, v', q2, q3, q4, q5⟩
    rw [hbl, e] at q4
    rw [hbl] at q2
    refine ⟨0, D', ss ++ [T], false, q1, ⟨v', by rw [hnx]; exact q2, q3.ws, fun k hk e => by have h1 := World.ownsRow.lt q3 k hk; have h2 := hN k e; omega⟩, q4, q5, .ok D' (by omega) hr hl.aliveA ?_⟩
    rw [hl.l, getD_set_self _ _ _ _ hf]
    exact hap
  · refine (aappendGone (T := T) h1 (h2.txA hM) (by omega) hd hok hm hn hf rfl rfl hq rfl hlk (by omega) (by show (T.size : Int) ≤ aroom quota _; omega) (by rw [hbl, e])).mono ?_
    rintro e' w' ⟨q1, q2, q4, q5⟩
    rw [hbl, e] at q4
    obtain ⟨cs, ec⟩ := hl.l.2 f (by rw [List.length_set]; exact hf)
    rw [getD_set_self _ _ _ _ hf] at ec
    refine ⟨2, D', ss, true, q1, ⟨v, q2, h2.keep q5 hM, h3⟩, q4, q5, .gone D' (by omega) hr hl.goneA ?_ ?_⟩
    · rw [ec]
      obtain ⟨j, j1, j2, j3⟩ := hap.crash (by rw [List.length_append, List.length_singleton]; omega) cs
      rw [List.length_append, List.length_singleton] at j2
      exact ⟨j, j1, j2, j3⟩
    · rw [ec]
      refine Nat.le_trans (size_left1 _ _) ?_
      rw [hap.size, lens_pays_snoc, ← hx.size]
      omega
theorem asynF (h : AFr N w lb b f quota ss false) (hd : IsDisk w b g cap D) (hok : DOk D) (al : D.dead = false) (hf : f < D.l.length) (hx : AC (D.l.getD f Fl.zero) ss k) :
    Calls Tryz.prog 18 #[.pointer (some ⟨lb, 0, none⟩)] w fun e w' => ∃ r D' dd, e = .returned (.int .i64 r) ∧ AFr N w' lb b f quota ss dd ∧ IsDisk w' b g cap D' ∧ Chg (fun k => k = lb ∨ k = b ∨ k = g) w w' ∧ ASynR D f ss k r D' dd := by
  have hM := h.al.muts3 hd
  have hn := h.al.ne hd
  obtain ⟨v, h1, h2, h3⟩ := h
  have hfew := hx.few (hok.size f hf)
  rcases syncX_c hok al f hf with ⟨D', e, hl⟩ | ⟨D', e, hl⟩
  · refine (asyncOk h1 hd hok hn rfl rfl rfl (by rw [e])).mono ?_
    rintro e' w' ⟨q1, q2, q3, q4⟩
    rw [e] at q3
    refine ⟨0, D', false, q1, ⟨v, q2, h2.keep q4 hd.muts, h3⟩, q3, q4.mono (fun k _ h => .inr h), .ok D' hl.aliveA ?_⟩
    rw [hl.l, getD_set_self _ _ _ _ hf]
    exact hx.syn
  · refine (asyncGone h1 hd hok hn rfl rfl rfl (by rw [e])).mono ?_
    rintro e' w' ⟨q1, q2, q3, q4⟩
    rw [e] at q3
    obtain ⟨cs, ec⟩ := hl.l.2 f hf
    refine ⟨2, D', true, q1, ⟨v, q2, h2.keep q4 hM, h3⟩, q3, q4, .gone D' (hl.goneA' f) ?_ ?_⟩
    · rw [ec]; exact hx.crash (by omega) cs
    · rw [ec]; exact size_left1 _ _
theorem AFr.texts {dd : Bool} (h : AFr N w lb b f quota ss dd) (hl : ss.length ≤ 1048576) :
    Calls Tryz.prog 23 #[.pointer (some ⟨lb, 0, none⟩)] w fun e w' => ∃ p, e = .returned (.slice p ss.length ss.length) ∧ Strs w' (.slice p ss.length ss.length) ss ∧ (∀ a, p = some a → w.heap.size ≤ a.block) ∧ Below w.heap.size w w' := by
  obtain ⟨v, h1, h2, _⟩ := h
  exact atextsF h1 h2.strs hl
theorem AFr.deadW {dd : Bool} (h : AFr N w lb b f quota ss dd) : Calls Tryz.prog 30 #[.pointer (some ⟨lb, 0, none⟩)] w fun e w' => e = .returned (.bool dd) ∧ w' = w := by
  obtain ⟨v, h1, _⟩ := h
  exact adeadW h1
theorem AFr.linkW {dd : Bool} (h : AFr N w lb b f quota ss dd) : Calls Tryz.prog 34 #[.pointer (some ⟨lb, 0, none⟩)] w fun e w' => e = .returned (.string (strOf (linkL (ss.map bs)))) ∧ w' = w := by
  obtain ⟨v, h1, _⟩ := h
  exact alinkW h1
end
/-- A block of a text; what follows a block. -/
def findBlockA (n : Nat) : Code → Option Code
  | .block m c => if m = n then some (.block m c) else findBlockA n c
  | .seq a b => match findBlockA n a with
    | some c => some c
    | none => findBlockA n b
  | .loop c => findBlockA n c
  | .scope c => findBlockA n c
  | .cond _ a b => match findBlockA n a with
    | some c => some c
    | none => findBlockA n b
  | _ => none
def isBlockA (n : Nat) : Code → Bool
  | .block m _ => m == n
  | .seq _ b => isBlockA n b
  | _ => false
def findAfterA (n : Nat) : Code → Option Code
  | .seq a b => if isBlockA n a = true then some b else match findAfterA n a with
    | some d => some d
    | none => findAfterA n b
  | .block _ c => findAfterA n c
  | .loop c => findAfterA n c
  | .scope c => findAfterA n c
  | .cond _ a b => match findAfterA n a with
    | some c => some c
    | none => findAfterA n b
  | _ => none
/-- A life in its own block. -/
def XA (w : World) (xb : Nat) (tv sv : Value) (N Ag : Int) (cv : Value) : Prop := w.heap[xb]? = some (.cells #[tv, sv, .int .i64 N, .int .i64 Ag, cv] 58 (0, 0))
section
variable {w : World} {xb : Nat} {tv sv cv : Value} {N Ag : Int}
theorem XA.c0 (h : XA w xb tv sv N Ag cv) : w.cell? ⟨xb, 0, none⟩ = some tv := by rw [cell_of_row w xb 0 _ _ _ h]; rfl
theorem XA.c1 (h : XA w xb tv sv N Ag cv) : w.cell? ⟨xb, 1, none⟩ = some sv := by rw [cell_of_row w xb 1 _ _ _ h]; rfl
theorem XA.c2 (h : XA w xb tv sv N Ag cv) : w.cell? ⟨xb, 2, none⟩ = some (.int .i64 N) := by rw [cell_of_row w xb 2 _ _ _ h]; rfl
theorem XA.c3 (h : XA w xb tv sv N Ag cv) : w.cell? ⟨xb, 3, none⟩ = some (.int .i64 Ag) := by rw [cell_of_row w xb 3 _ _ _ h]; rfl
theorem XA.c4 (h : XA w xb tv sv N Ag cv) : w.cell? ⟨xb, 4, none⟩ = some cv := by rw [cell_of_row w xb 4 _ _ _ h]; rfl
theorem XA.keep {S : Nat → Prop} {w' : World} (h : XA w xb tv sv N Ag cv) (hc : Chg S w w') (hn : ¬ S xb) : XA w' xb tv sv N Ag cv := (hc.block xb (Array.getElem?_eq_some_iff.1 h).1 hn).trans h
end
/-- Bools in a row. -/
def Bls (w : World) (v : Value) (zs : List Bool) : Prop :=
  ∃ p cap, v = .slice p zs.length cap ∧ ∀ i, i < zs.length → ∃ b off, p = some ⟨b, off, none⟩ ∧ w.cell? ⟨b, off + i, none⟩ = some (.bool (zs.getD i false))
/-- Where the blocks of a life lie. -/
structure ALvK (W W1 : World) (b g lb xb B1 : Nat) : Prop where
  le : B1 ≤ W1.heap.size
  b1 : b < B1
  g1 : g < B1
  l1 : lb < B1
  x1 : xb < B1
  xb' : xb ≠ b
  xg : xb ≠ g
  xl : xb ≠ lb
  Wl : W.heap.size ≤ lb
  WB : W.heap.size ≤ B1
/-- The memory of a life: the disk, the log, the texts that were laid down, those that are safe. -/
structure ALvM (W W1 : World) (b g cap lb B1 : Nat) (quota : Int) (D : Dk) (tx : List ByteArray) (dd : Bool) (va : Value) (al : List ByteArray) (vs : Value) (sf : List ByteArray) (w : World) : Prop where
  at_ : At W.heap.size W b g cap D w
  log : AFr va.ownBlock w lb b 0 quota tx dd
  all : OwnsZ w B1 va al
  safe : Strs w vs sf
  ap : ApartS (fun k => k = lb ∨ k = b ∨ k = g ∨ va.ownBlock = some k) vs sf
  chg : Chg (fun k => k = lb ∨ k = b ∨ k = g ∨ B1 ≤ k) W1 w
section
variable {W W1 w w' : World} {b g cap lb xb B1 : Nat} {quota : Int} {D D' : Dk} {tx tx' al al' sf : List ByteArray} {dd dd' : Bool} {va va' vs : Value}
theorem ApartS.mono {S T : Nat → Prop} {v : Value} {ss : List ByteArray} (h : ApartS S v ss) (hT : ∀ k, T k → S k) : ApartS T v ss := fun a n c hv h0 hk => h a n c hv h0 (hT _ hk)
theorem ALvM.size (h : ALvM W W1 b g cap lb B1 quota D tx dd va al vs sf w) (K : ALvK W W1 b g lb xb B1) : B1 ≤ w.heap.size := Nat.le_trans K.le h.chg.size
theorem ALvM.x (h : ALvM W W1 b g cap lb B1 quota D tx dd va al vs sf w) (K : ALvK W W1 b g lb xb B1) {tv sv cv : Value} {N Ag : Int} (hx : XA W1 xb tv sv N Ag cv) : XA w xb tv sv N Ag cv :=
  hx.keep h.chg (fun e => by
    have := K.xb'; have := K.xg; have := K.xl; have := K.x1
    omega)
theorem ALvM.call (h : ALvM W W1 b g cap lb B1 quota D tx dd va al vs sf w) (K : ALvK W W1 b g lb xb B1) (hl : AFr va.ownBlock w' lb b 0 quota tx' dd') (hd : IsDisk w' b g cap D') (hc : Chg (fun k => k = lb ∨ k = b ∨ k = g) w w') : ALvM W W1 b g cap lb B1 quota D' tx' dd' va al vs sf w' :=
  ⟨h.at_.chg3 hd K.Wl hc, hl, h.all.chg hc (h.log.al.muts3 h.at_.disk), h.safe.keepA (h.ap.mono fun k e => by omega) hc, h.ap, h.chg.trans (hc.mono fun k _ e => by omega)⟩
theorem ALvM.disk (h : ALvM W W1 b g cap lb B1 quota D tx dd va al vs sf w) (K : ALvK W W1 b g lb xb B1) (hd : IsDisk w' b g cap D') (hc : Chg (fun k => k = b ∨ k = g) w w') : ALvM W W1 b g cap lb B1 quota D' tx dd va al vs sf w' :=
  h.call K (h.log.keep hc (by have := h.log.al.ne h.at_.disk; omega) h.at_.disk.muts) hd (hc.mono fun k _ e => .inr e)
theorem ALvM.below (h : ALvM W W1 b g cap lb B1 quota D tx dd va al vs sf w) (hb : Below w.heap.size w w') : ALvM W W1 b g cap lb B1 quota D tx dd va al vs sf w' :=
  ⟨h.at_.grow hb, h.log.below hb, h.all.below hb, h.safe.below hb, h.ap, h.chg.trans (Chg.of_below _ hb)⟩
theorem ALvM.more (h : ALvM W W1 b g cap lb B1 quota D tx dd va al vs sf w) (K : ALvK W W1 b g lb xb B1) (ho : OwnsZ w' B1 va' al') (hg : w.grownBy w' va.ownBlock) (hv : va'.ownBlock = va.ownBlock ∨ va'.ownBlock = some w.heap.size)
    (hk : ∀ u us, WS w u us → (∀ s ∈ us, 0 < s.size) → WS w' u us) (hW : FullW D) : ALvM W W1 b g cap lb B1 quota D tx dd va' al' vs sf w' := by
  have hc := Chg.of_own hg
  refine ⟨h.at_.appendedZ (h.all.base K.WB) hg hk hW, h.log.appendedZ h.all hg hv, ho, h.safe.keepA (h.ap.mono fun k e => .inr (.inr (.inr e))) hc, ?_, h.chg.trans (hc.mono fun k _ e => .inr (.inr (.inr (h.all.lt e).1)))⟩
  intro a n c e h0 hS
  rcases hS with hS | hS | hS | hS
  · exact h.ap a n c e h0 (.inl hS)
  · exact h.ap a n c e h0 (.inr (.inl hS))
  · exact h.ap a n c e h0 (.inr (.inr (.inl hS)))
  · rcases hv with hv | hv
    · exact h.ap a n c e h0 (.inr (.inr (.inr (hv ▸ hS))))
    · rw [hv] at hS
      injection hS with hS
      have := h.safe.blk e h0
      omega
/-- What is laid down is safe: a copy. -/
theorem ALvM.saved (h : ALvM W W1 b g cap lb B1 quota D tx dd va al vs sf w) (K : ALvK W W1 b g lb xb B1) {v' : Value} (hs : Strs w' v' al) (hf : ∀ a n c, v' = .slice (some a) n c → w.heap.size ≤ a.block) (hb : Below w.heap.size w w') : ALvM W W1 b g cap lb B1 quota D tx dd va al v' al w' := by
  have h1 := h.below hb
  refine ⟨h1.at_, h1.log, h1.all, hs, fun a n c e h0 hS => ?_, h1.chg⟩
  have h2 := hf a n c e
  have h3 := h.size K
  have := K.b1; have := K.g1; have := K.l1
  rcases hS with hS | hS | hS | hS
  · omega
  · omega
  · omega
  · have := (h.all.lt hS).2; omega
theorem OwnsZ.fresh {base : Nat} {v : Value} {ss : List ByteArray} (h : OwnsZ w base v ss) : ∀ a n c, v = .slice (some a) n c → base ≤ a.block := by
  intro a n c e
  exact (h.lt (k := a.block) (by rw [e]; rfl)).1
end
/-- A life on the disk: so long as the power stays. -/
structure ALvQ (D : Dk) (tx sf : List ByteArray) (k : Nat) (quota : Int) (A : Prop) : Prop where
  ok : DOk D
  al : D.dead = false
  one : D.l.length = 1
  ar : D.armed ≠ 0 → A
  ac : AC (D.l.getD 0 Fl.zero) tx k
  sf : sf = tx.take k
  z : ((rd (D.l.getD 0 Fl.zero)).size : Int) ≤ quota
/-- Behind its calls: whether the power went or not. -/
structure ALvO (D : Dk) (al sf : List ByteArray) (quota : Int) : Prop where
  n : al.length ≤ 1048576
  ok : DOk D
  one : D.l.length = 1
  z : ((rd (D.l.getD 0 Fl.zero)).size : Int) ≤ quota
  res : ∃ k, sf = al.take k ∧ k ≤ al.length ∧ ((D.dead = false ∧ AC (D.l.getD 0 Fl.zero) al k) ∨ (D.dead = true ∧ ∃ j, k ≤ j ∧ j ≤ al.length ∧ ARest (D.l.getD 0 Fl.zero) (al.take j)))
section
variable {D D' : Dk} {tx sf : List ByteArray} {k : Nat} {quota : Int} {A A' : Prop}
theorem ALvQ.n (h : ALvQ D tx sf k quota A) : 19 * tx.length ≤ 262144 := h.ac.few (h.ok.size 0 (by rw [h.one]; decide))
theorem ALvQ.full (h : ALvQ D tx sf k quota A) : FullW D := by
  intro j hj s hs
  have hj0 : j = 0 := by have := h.one; omega
  subst hj0
  exact h.ac.fullW s hs
theorem ALvQ.many (h : ALvQ D tx sf k quota A) : Many D := by
  intro j hj
  have hj0 : j = 0 := by have := h.one; omega
  subst hj0
  have h1 := h.ac.many
  have h2 := h.n
  omega
theorem ALvQ.mono (h : ALvQ D tx sf k quota A) (ha : A → A') : ALvQ D tx sf k quota A' := ⟨h.ok, h.al, h.one, fun e => ha (h.ar e), h.ac, h.sf, h.z⟩
theorem ALvQ.out (h : ALvQ D tx sf k quota A) : ALvO D tx sf quota := ⟨by have := h.n; omega, h.ok, h.one, h.z, k, h.sf, h.ac.kl, .inl ⟨h.al, h.ac⟩⟩
theorem ALvQ.armed (h : ALvQ D tx sf k quota A) (x : Nat) (css : List (List Int)) (ha : A') (hn : x ≤ 9223372036854775807) (hc : ∀ i, (css.getD i []).length ≤ 140737488355328) : ALvQ ⟨D.l, x, css, D.dead⟩ tx sf k quota A' :=
  ⟨⟨h.ok.n, h.ok.pos, h.ok.size, h.ok.many, hn, hc⟩, h.al, h.one, fun _ => ha, h.ac, h.sf, h.z⟩
theorem ALvQ.app (h : ALvQ D tx sf k quota A) {T : ByteArray} (hr : ¬ aroom quota (rd (D.l.getD 0 Fl.zero)).size < (T.size : Int)) (ha : AliveA D D' 0) (hx : AC (D'.l.getD 0 Fl.zero) (tx ++ [T]) k) : ALvQ D' (tx ++ [T]) sf k quota A := by
  have h1 := aroom_le hr
  refine ⟨ha.ok, ha.al, ha.len.trans h.one, fun e => h.ar (fun e0 => e (ha.ar e0)), hx, by rw [List.take_append_of_le_length h.ac.kl]; exact h.sf, ?_⟩
  have h2 := h.ac.size
  rw [hx.size, lens_pays_snoc, ← h2]
  omega
theorem ALvQ.appGone (h : ALvQ D tx sf k quota A) {T : ByteArray} (hr : ¬ aroom quota (rd (D.l.getD 0 Fl.zero)).size < (T.size : Int)) (hg : GoneA D D' 0) (hx : ∃ j, k ≤ j ∧ j ≤ tx.length + 1 ∧ ARest (D'.l.getD 0 Fl.zero) ((tx ++ [T]).take j)) (hz : (rd (D'.l.getD 0 Fl.zero)).size ≤ (rd (D.l.getD 0 Fl.zero)).size + 51 + T.size) : ALvO D' (tx ++ [T]) sf quota ∧ FullW D' ∧ A := by
  have h1 := aroom_le hr
  obtain ⟨j, j1, j2, j3⟩ := hx
  have hkl := h.ac.kl
  have hn := h.n
  refine ⟨⟨by rw [List.length_append, List.length_singleton]; omega, hg.ok, hg.len.trans h.one, by omega, k, by rw [List.take_append_of_le_length h.ac.kl]; exact h.sf, by rw [List.length_append]; omega, .inr ⟨hg.dd, j, j1, by rw [List.length_append]; exact j2, j3⟩⟩, ?_, h.ar hg.ar⟩
  intro i hi s hs
  have hi0 : i = 0 := by have := hg.len; have := h.one; omega
  subst hi0
  rw [j3.ws] at hs
  cases hs
theorem ALvQ.syn (h : ALvQ D tx sf k quota A) (ha : AliveA D D' 0) (hx : AC (D'.l.getD 0 Fl.zero) tx tx.length) : ALvQ D' tx tx tx.length quota A := by
  refine ⟨ha.ok, ha.al, ha.len.trans h.one, fun e => h.ar (fun e0 => e (ha.ar e0)), hx, by rw [List.take_length], ?_⟩
  have h2 := h.ac.size
  have := h.z
  rw [hx.size, ← h2]
  exact this
theorem ALvQ.synGone (h : ALvQ D tx sf k quota A) (hg : GoneA D D' 0) (hx : ∃ j, k ≤ j ∧ j ≤ tx.length ∧ ARest (D'.l.getD 0 Fl.zero) (tx.take j)) (hz : (rd (D'.l.getD 0 Fl.zero)).size ≤ (rd (D.l.getD 0 Fl.zero)).size) : ALvO D' tx sf quota ∧ A := by
  have h1 := h.z
  exact ⟨⟨by have := h.n; omega, hg.ok, hg.len.trans h.one, by omega, k, h.sf, h.ac.kl, .inr ⟨hg.dd, hx⟩⟩, h.ar hg.ar⟩
end
/-- A life that came in. -/
structure Alf where
  texts : List ByteArray
  syncs : List Bool
  n : Int
  ag : Int
  css : List (List Int)
def Alf.zero : Alf := ⟨[], [], 0, 0, []⟩
structure AlfOk (x : Alf) : Prop where
  t : x.texts.length ≤ 1048576
  h : x.syncs.length ≤ 1048576
  c : x.css.length ≤ 1048576
  cs : ∀ i, (x.css.getD i []).length ≤ 1048576
  n : x.n ≤ 9223372036854775807
  ag : x.ag ≤ 9223372036854775807
/-- Lives that came in. -/
def ALifes (w : World) (v : Value) (ls : List Alf) : Prop :=
  ∃ p cap, v = .slice p ls.length cap ∧ ∀ i, i < ls.length → ∃ b off tv sv cv, p = some ⟨b, off, none⟩ ∧ w.cell? ⟨b, off + i * 5, none⟩ = some tv ∧ w.cell? ⟨b, off + i * 5 + 1, none⟩ = some sv ∧ w.cell? ⟨b, off + i * 5 + 2, none⟩ = some (.int .i64 (ls.getD i Alf.zero).n) ∧
    w.cell? ⟨b, off + i * 5 + 3, none⟩ = some (.int .i64 (ls.getD i Alf.zero).ag) ∧ w.cell? ⟨b, off + i * 5 + 4, none⟩ = some cv ∧
    Strs w tv (ls.getD i Alf.zero).texts ∧ Bls w sv (ls.getD i Alf.zero).syncs ∧ Rss w cv (ls.getD i Alf.zero).css
end Go.Proofs.YtilpbjcbffbjeaaGreatDoor
