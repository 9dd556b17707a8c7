/- Appends to strings of the call's own whose block's cells behind them are empty strings: rows of strings that are not empty stay as they are. -/
import Derived.Test.YtilpbjcbffbjeaaDoorWThin
import Derived.Test.YtilpbjcbffbjeaaDoorAFixed
namespace Go.Proofs.YtilpbjcbffbjeaaDoor
set_option linter.unusedVariables false
set_option maxRecDepth 100000
open Go.RowKit
/-- An own row of strings; the cells behind them are empty strings. -/
structure OwnsZ (w : World) (base : Nat) (v : Value) (ss : List ByteArray) : Prop where
  own : OwnsS w base v ss
  zt : ∀ g cap cur, v = .slice (some ⟨g, 0, none⟩) ss.length cap → w.heap[g]? = some (.cells cur 9 (0, 0)) → ∀ i, ss.length ≤ i → i < cap → cur[i]? = some (.string ⟨#[]⟩)
theorem zeroStr (k i : Nat) (h : i < k) : (Builtin.zeroCells (Value.string ⟨#[]⟩).cells k)[i]? = some (.string ⟨#[]⟩) := by
  unfold Builtin.zeroCells
  simp [Value.cells, Nat.mod_one, h]
theorem OwnsZ.nil (w : World) (base : Nat) : OwnsZ w base (.slice none 0 0) [] := ⟨World.ownsRow_nil _ _ _ _, fun g cap cur h => by simp at h⟩
theorem OwnsZ.emptyW (w : World) : OwnsZ (w.alloc (.cells #[] 9)) w.heap.size (.slice (some ⟨w.heap.size, 0, none⟩) 0 0) [] :=
  ⟨⟨rfl, .inr ⟨w.heap.size, 0, _, rfl, Nat.le_refl _, heap_alloc_new w _, Nat.le_refl _, Nat.zero_le _, rfl, by simp⟩⟩, fun g cap cur h _ i hi hc => by
    simp only [Value.slice.injEq] at h
    omega⟩
theorem OwnsZ.same {w w' : World} {base : Nat} {v : Value} {ss : List ByteArray} (h : OwnsZ w base v ss) (e : ∀ k, v.ownBlock = some k → w'.heap[k]? = w.heap[k]?) : OwnsZ w' base v ss := by
  refine ⟨⟨h.own.1, ?_⟩, fun g cap cur hv hg => h.zt g cap cur hv (by rw [← e g (by rw [hv]; rfl)]; exact hg)⟩
  rcases h.own.2 with q | ⟨g, cap, cur, rfl, q2, q3, q4⟩
  · exact .inl q
  · exact .inr ⟨g, cap, cur, rfl, q2, (e g rfl).trans q3, q4⟩
theorem OwnsZ.lt {w : World} {base k : Nat} {v : Value} {ss : List ByteArray} (h : OwnsZ w base v ss) (hk : v.ownBlock = some k) : base ≤ k ∧ k < w.heap.size := World.ownsRow.lt h.own k hk
theorem OwnsZ.below {w w' : World} {base : Nat} {v : Value} {ss : List ByteArray} (h : OwnsZ w base v ss) (hb : Below w.heap.size w w') : OwnsZ w' base v ss := h.same fun k hk => hb.block k (h.lt hk).2
theorem OwnsZ.typ {w : World} {base k : Nat} {v : Value} {ss : List ByteArray} (h : OwnsZ w base v ss) (hk : v.ownBlock = some k) : ∃ cur, w.heap[k]? = some (.cells cur 9 (0, 0)) := by
  rcases h.own.2 with ⟨rfl, _⟩ | ⟨g, cap, cur, rfl, _, hg, _⟩
  · cases hk
  · injection hk with hk
    subst hk
    exact ⟨cur, hg⟩
theorem OwnsZ.chg {S : Nat → Prop} {w w' : World} {base : Nat} {v : Value} {ss : List ByteArray} (h : OwnsZ w base v ss) (hc : Chg S w w') (hm : Muts S w) : OwnsZ w' base v ss := by
  refine h.same fun k hk => ?_
  obtain ⟨cur, hg⟩ := h.typ hk
  exact hc.block k (h.lt hk).2 (fun hS => hm k (h.lt hk).2 hS _ _ _ hg (.inl rfl))
theorem OwnsZ.base {w : World} {base base' : Nat} {v : Value} {ss : List ByteArray} (h : OwnsZ w base v ss) (hb : base' ≤ base) : OwnsZ w base' v ss := ⟨row_base h.own hb, h.zt⟩
theorem OwnsZ.ws {w : World} {base : Nat} {v : Value} {ss : List ByteArray} (h : OwnsZ w base v ss) : WS w v ss := h.own.ws
theorem OwnsZ.shape {w : World} {base : Nat} {v : Value} {ss : List ByteArray} (h : OwnsZ w base v ss) : ∃ p cap, v = .slice p ss.length cap := by
  obtain ⟨p, cap, e, _⟩ := h.ws.form
  exact ⟨p, cap, e⟩
theorem ws_keepAll {w w' : World} (hk : ∀ k, k < w.heap.size → w'.heap[k]? = w.heap[k]?) (u : Value) (us : List ByteArray) (hu : WS w u us) : WS w' u us := by
  refine ⟨hu.1, ?_⟩
  rcases hu.2 with q | ⟨g, cap, cur, q1, q2, q3, q4⟩
  · exact .inl q
  · exact .inr ⟨g, cap, cur, q1, q2, (hk g (Array.getElem?_eq_some_iff.1 q3).1).trans q3, q4⟩
theorem ws_apart {w w' : World} {row : Option Nat} (hg : w.grownBy w' row) {u : Value} {us : List ByteArray} (hu : WS w u us) (hne : ∀ k, u.ownBlock = some k → row ≠ some k) : WS w' u us := by
  refine ⟨hu.1, ?_⟩
  rcases hu.2 with q | ⟨g, cap, cur, q1, q2, q3, q4⟩
  · exact .inl q
  · exact .inr ⟨g, cap, cur, q1, q2, (hg.block g (Array.getElem?_eq_some_iff.1 q3).1 (fun e => hne g (by rw [q1]; rfl) e.symm)).trans q3, q4⟩
theorem run_append_z (w : World) (base : Nat) (ty : TypeId) (v : Value) (ss news : List ByteArray) (h : OwnsZ w base v ss) (ad : Addr) (m c : Nat) (hm : news.length = m)
    (hnew : ∀ j, j < m → w.cell? (ad.add j) = some (.string (news.getD j ⟨#[]⟩))) (hsz : ss.length + m ≤ 2097152) (hbase : base ≤ w.heap.size) :
    ∃ v' w', (Builtin.append_ #[22, 22] ty #[v, .slice (some ad) m c]).run Tryd.prog w = .ok v' w' ∧ OwnsZ w' base v' (ss ++ news) ∧ w.grownBy w' v.ownBlock ∧ (v'.ownBlock = v.ownBlock ∨ v'.ownBlock = some w.heap.size) ∧
      (∀ u us, WS w u us → (∀ s ∈ us, 0 < s.size) → WS w' u us) := by
  obtain ⟨i0, hi0, hz0, hz1, hz2⟩ := info_parts infoStr
  have hne : ∀ j u, (news.map Value.string)[j]? = some u → w.cell? (ad.add j) = some u := by
    intro j u hu
    have hj : j < news.length := by have := (List.getElem?_eq_some_iff.1 hu).1; rwa [List.length_map] at this
    rw [List.getElem?_map, List.getElem?_eq_getElem hj] at hu
    rw [hnew j (by omega), List.getD_eq_getElem?_getD, List.getElem?_eq_getElem hj]
    exact hu
  have h1c : ∀ u ∈ news.map Value.string, u.oneCell' = true := by
    intro u hu
    obtain ⟨s, _, rfl⟩ := List.mem_map.1 hu
    rfl
  have hml : (news.map Value.string).length = m * 1 := by rw [List.length_map, Nat.mul_one, hm]
  have hown0 : w.ownsRow base 9 1 v ss.length (ss.map Value.string) := h.own
  obtain ⟨v', w', hr, h2, h3, h4, h5⟩ := run_append_own_at (P := Tryd.prog) w base 22 ty 9 i0 (.string ⟨#[]⟩) 1 16 Tryd.underlying22 hi0 hz0 hz1 hz2 rfl (by decide) v ss.length (ss.map Value.string) hown0 ad m c (news.map Value.string) hml hne h1c (by unfold maxLen; omega) (by omega) hbase
  have hO : OwnsS w' base v' (ss ++ news) := by
    unfold OwnsS
    rw [List.length_append, List.map_append, hm]
    exact h2
  refine ⟨v', w', hr, ⟨hO, ?_⟩, h3, h5, ?_⟩
  · intro g cap cur hv hg i hi hic
    rw [List.length_append, hm] at hi
    rcases hown0.2 with ⟨rfl, hn⟩ | ⟨g0, cap0, cur0, rfl, hbg, hg0, hnc, hcm, hcs, htake⟩
    · have hss : ss = [] := List.eq_nil_of_length_eq_zero hn
      subst hss
      by_cases h0 : m = 0
      · have := h4.2 ⟨rfl, h0⟩
        rw [this] at hv
        simp at hv
      · have hr2 := run_append_nil (P := Tryd.prog) w 22 ty 9 i0 (.string ⟨#[]⟩) Tryd.underlying22 hi0 hz0 ad m c (news.map Value.string) (by rw [hz1]; exact hml) hne (by omega) (by omega) (by rw [hz2]; omega)
        rw [hr] at hr2
        injection hr2 with e1 e2
        subst e1 e2
        simp only [Value.slice.injEq, Option.some.injEq, Addr.mk.injEq] at hv
        obtain ⟨⟨rfl, _⟩, _, rfl⟩ := hv
        replace hg : (w.drew.alloc _).heap[w.drew.heap.size]? = _ := hg
        rw [heap_alloc_new w.drew] at hg
        injection hg with hg
        injection hg with hg _ _
        subst hg
        rw [Array.getElem?_append_right (by simp [hm]; simpa using hi)]
        simp only [List.size_toArray, List.length_map, hm]
        exact zeroStr _ _ (by simp only [List.length_nil, Nat.zero_add] at hi; omega)
    · by_cases hroom : ss.length + m ≤ cap0
      · have hfit : ss.length * i0.size + (news.map Value.string).length ≤ cur0.size := by rw [hz1, hcs, hml]; simpa using hroom
        have hr2 := run_append_room (P := Tryd.prog) w 22 ty 9 i0 Tryd.underlying22 hi0 g0 ss.length cap0 cur0 hg0 ad m c (news.map Value.string) (by rw [hz1]; exact hml) hne h1c hroom hfit
        rw [hr] at hr2
        injection hr2 with e1 e2
        subst e1 e2
        simp only [Value.slice.injEq, Option.some.injEq, Addr.mk.injEq] at hv
        obtain ⟨⟨rfl, _⟩, _, rfl⟩ := hv
        rw [setRow_heap w g0 cur0 _ 9 _ hg0] at hg
        injection hg with hg
        injection hg with hg _ _
        subst hg
        have h9 := h.zt g0 cap0 cur0 rfl hg0 i (by omega) hic
        rw [hz1] at hfit
        simp only [Nat.mul_one, List.length_map, hm] at hfit
        rw [hz1]
        simp only [List.getElem?_toArray, Nat.mul_one]
        rw [List.getElem?_append_right (by simp [hm]; omega), List.getElem?_drop]
        simp only [List.length_append, List.length_take, List.length_map, Array.length_toList, hm]
        rw [show ss.length + m + (i - (min ss.length cur0.size + m)) = i by omega]
        rw [Array.getElem?_toList]
        exact h9
      · have holds : ∀ j u, (ss.map Value.string)[j]? = some u → w.cell? ((⟨g0, 0, none⟩ : Addr).add j) = some u := hown0.cells (g := g0) rfl
        have hr2 := run_append_grow (P := Tryd.prog) w 22 ty 9 i0 (.string ⟨#[]⟩) Tryd.underlying22 hi0 hz0 ⟨g0, 0, none⟩ ss.length cap0 (ss.map Value.string) (by rw [hz1, List.length_map, Nat.mul_one]) holds ad m c (news.map Value.string) (by rw [hz1]; exact hml) hne (by omega) (by omega) (growslice_fits (by omega) (by rw [hz2]; omega))
        rw [hr] at hr2
        injection hr2 with e1 e2
        subst e1 e2
        simp only [Value.slice.injEq, Option.some.injEq, Addr.mk.injEq] at hv
        obtain ⟨⟨rfl, _⟩, _, rfl⟩ := hv
        replace hg : (w.drew.alloc _).heap[w.drew.heap.size]? = _ := hg
        rw [heap_alloc_new w.drew] at hg
        injection hg with hg
        injection hg with hg _ _
        subst hg
        rw [Array.getElem?_append_right (by simp [hm]; omega)]
        simp only [List.size_toArray, List.length_map, Array.size_append, hm]
        exact zeroStr _ _ (by omega)
  · intro u us hu hpos
    rcases hown0.2 with ⟨rfl, hn⟩ | ⟨g0, cap0, cur0, rfl, hbg, hg0, hnc, hcm, hcs, htake⟩
    · exact ws_keepAll (fun k hk => h3.block k hk (by simp [Value.ownBlock])) u us hu
    · by_cases hroom : ss.length + m ≤ cap0
      · have hfit : ss.length * i0.size + (news.map Value.string).length ≤ cur0.size := by rw [hz1, hcs, hml]; simpa using hroom
        have hr2 := run_append_room (P := Tryd.prog) w 22 ty 9 i0 Tryd.underlying22 hi0 g0 ss.length cap0 cur0 hg0 ad m c (news.map Value.string) (by rw [hz1]; exact hml) hne h1c hroom hfit
        rw [hr] at hr2
        injection hr2 with e1 e2
        subst e1 e2
        refine ⟨hu.1, ?_⟩
        rcases hu.2 with q | ⟨g', cap', cur', q1, q2, q3, q4, q5, q6, q7⟩
        · exact .inl q
        · by_cases hgg : g' = g0
          · subst hgg
            rw [hg0] at q3
            injection q3 with q3
            injection q3 with q3 _ _
            subst q3
            have hle : us.length ≤ ss.length := by
              refine Nat.le_of_not_lt fun hlt => ?_
              rw [List.length_map] at q4
              have h9 := h.zt g' cap0 cur0 rfl hg0 ss.length (Nat.le_refl _) (by omega)
              have h8 : (cur0.toList.take (us.length * 1))[ss.length]? = (us.map Value.string)[ss.length]? := by
                have e := congrArg (fun l => l[ss.length]?) q7
                simpa using e
              rw [List.getElem?_take, if_pos (by omega), Array.getElem?_toList, h9, List.getElem?_map, List.getElem?_eq_getElem hlt] at h8
              simp only [Option.map_some, Option.some.injEq, Value.string.injEq] at h8
              have := hpos _ (List.getElem_mem hlt)
              rw [← h8] at this
              exact absurd this (by decide)
            refine .inr ⟨g', cap', _, q1, q2, setRow_heap w g' cur0 _ 9 _ hg0, q4, q5, ?_, ?_⟩
            · simp only [List.size_toArray, List.length_append, List.length_take, List.length_drop, Array.length_toList]
              rw [hz1] at hfit ⊢
              simp at hfit ⊢
              omega
            · refine Eq.trans ?_ q7
              rw [hz1]
              simp only [List.take_append, List.length_take, Array.length_toList]
              rw [List.take_take, Nat.min_eq_left (by rw [List.length_map]; omega)]
              have hz : (us.map Value.string).length * 1 - min (ss.length * 1) cur0.size = 0 := by
                rw [hcs, List.length_map, Nat.min_eq_left (by omega)]; omega
              rw [hz]
              simp only [Nat.mul_one] at hle hcs
              simp
              exact .inl (by omega)
          · exact .inr ⟨g', cap', cur', q1, q2, (setRow_other w g0 g' _ hgg).trans q3, q4, q5, q6, q7⟩
      · have holds : ∀ j u, (ss.map Value.string)[j]? = some u → w.cell? ((⟨g0, 0, none⟩ : Addr).add j) = some u := hown0.cells (g := g0) rfl
        have hr2 := run_append_grow (P := Tryd.prog) w 22 ty 9 i0 (.string ⟨#[]⟩) Tryd.underlying22 hi0 hz0 ⟨g0, 0, none⟩ ss.length cap0 (ss.map Value.string) (by rw [hz1, List.length_map, Nat.mul_one]) holds ad m c (news.map Value.string) (by rw [hz1]; exact hml) hne (by omega) (by omega) (growslice_fits (by omega) (by rw [hz2]; omega))
        rw [hr] at hr2
        injection hr2 with _ e2
        subst e2
        exact ws_keepAll (fun k hk => Below.heap_alloc w.drew _ k hk) u us hu
/-- append of strings to an own row whose tail is empty strings. -/
theorem wpList_append_z {ops : Array Oper} {rest : List Oper} {o : Oper} {a : Act} {w : World} {Q : Exit → Act → World → Prop} {base : Nat} {v : Value} {ss news : List ByteArray}
    (hgd : Region.wanted o (yielded ops a.tmps) = true) (s x : Operand) (ho : o.op = .call { callee := .builtin .append, args := #[s, x], argTypes := #[22, 22] })
    (hs : a.eval s = v) (hown : OwnsZ w base v ss) (ad : Addr) (m c : Nat) (hx : a.eval x = .slice (some ad) m c) (hm : news.length = m)
    (hnew : ∀ j, j < m → w.cell? (ad.add j) = some (.string (news.getD j ⟨#[]⟩))) (hsz : ss.length + m ≤ 2097152) (hbase : base ≤ w.heap.size)
    (h : ∀ v' w', OwnsZ w' base v' (ss ++ news) → w.grownBy w' v.ownBlock → (v'.ownBlock = v.ownBlock ∨ v'.ownBlock = some w.heap.size) → (∀ u us, WS w u us → (∀ s ∈ us, 0 < s.size) → WS w' u us) → wpList Tryd.prog ops Q rest (a.put o.dst v') w') : wpList Tryd.prog ops Q (o :: rest) a w := by
  obtain ⟨v', w', hr, h2, h3, h4, h5⟩ := run_append_z w base o.type v ss news hown ad m c hm hnew hsz hbase
  refine wpList_step fun K hK => ?_
  rw [if_pos hgd]
  unfold Oper.wp
  simp [execOp, ho, resolve, invoke, builtin, hs, hx, hr, Result.andThen]
  exact hK _ _ (h v' w' h2 h3 h4 h5)
theorem Chg.of_own {w w' : World} {v : Value} (hg : w.grownBy w' v.ownBlock) : Chg (fun k => v.ownBlock = some k) w w' :=
  ⟨hg.os, hg.tape, hg.output, hg.size, fun k hk hn => hg.block k hk (fun e => hn e.symm)⟩
/-- No write that waits is empty. -/
def FullW (D : Dk) : Prop := ∀ j, j < D.l.length → ∀ s ∈ (D.l.getD j Fl.zero).ws, 0 < s.size
theorem OwnsZ.other {w w' : World} {base : Nat} {v : Value} {ss : List ByteArray} (h : OwnsZ w base v ss) (hg : w.grownBy w' v.ownBlock) {k : Nat} {cur : Array Value} {T : TypeId} {fr : Nat × Nat} (hb : w.heap[k]? = some (Obj.cells cur T fr)) (hT : T ≠ 9) : w'.heap[k]? = w.heap[k]? := by
  refine hg.block k (Array.getElem?_eq_some_iff.1 hb).1 (fun e => ?_)
  obtain ⟨cur', h1⟩ := h.typ e.symm
  rw [hb] at h1
  injection h1 with h1
  injection h1 with _ h2 _
  exact hT h2
theorem IsDisk.appendedZ {b g cap : Nat} {w w' : World} {D : Dk} {base : Nat} {v : Value} {ss : List ByteArray} (h : IsDisk w b g cap D) (hown : OwnsZ w base v ss) (hg : w.grownBy w' v.ownBlock)
    (hk : ∀ u us, WS w u us → (∀ s ∈ us, 0 < s.size) → WS w' u us) (hF : FullW D) : IsDisk w' b g cap D := by
  have hc := Chg.of_own hg
  have hm : ∀ T, T ≠ 9 → ∀ k, k < w.heap.size → v.ownBlock = some k → ∀ cur fr, w.heap[k]? ≠ some (.cells cur T fr) := by
    intro T hT k _ hkk cur fr hb
    obtain ⟨cur', h1⟩ := hown.typ hkk
    rw [hb] at h1
    injection h1 with h1
    injection h1 with _ h2 _
    exact hT h2
  obtain ⟨cv, h1, us, h2, h3, h4⟩ := h.blk
  refine ⟨⟨cv, (hown.other hg h1 (by decide)).trans h1, us, h2, h3.keepT hc (hm _ (by decide)), fun i hi => Row1.keepT (h4 i hi) hc (hm _ (by decide))⟩, ?_⟩
  obtain ⟨cur, hb, hs⟩ := h.fs.blk
  have eb := hown.other hg hb (by decide)
  have ec : ∀ j, w'.cell? ⟨g, j, none⟩ = w.cell? ⟨g, j, none⟩ := fun j => World.cell?_of_block eb
  refine ⟨⟨cur, eb.trans hb, hs⟩, h.fs.capm, h.fs.len, fun i hi => (ec _).trans (h.fs.safe i hi), fun i hi => ?_⟩
  obtain ⟨u, h5, h6⟩ := h.fs.ws i hi
  exact ⟨u, (ec _).trans h5, hk u _ h6 (hF i hi)⟩
theorem IsALog.appendedZ {lb : Nat} {w w' : World} {l : ALog} {base : Nat} {v : Value} {ss : List ByteArray} (h : IsALog w lb l) (hown : OwnsZ w base v ss) (hg : w.grownBy w' v.ownBlock) : IsALog w' lb l := h.same (hown.other hg h (by decide))
theorem At.appendedZ {B b g cap : Nat} {w0 w w' : World} {D : Dk} {v : Value} {ss : List ByteArray} (h : At B w0 b g cap D w) (hown : OwnsZ w B v ss) (hg : w.grownBy w' v.ownBlock)
    (hk : ∀ u us, WS w u us → (∀ s ∈ us, 0 < s.size) → WS w' u us) (hF : FullW D) : At B w0 b g cap D w' :=
  ⟨h.disk.appendedZ hown hg hk hF, h.below.grown hg (by have := h.below.size; have := h.le; omega) (fun k hk => (hown.lt hk).1), h.bB, h.gB, h.le⟩
theorem recW_pos : ∀ (ps : List (List Nat)) (k : Nat), ∀ r ∈ recW k ps, 0 < r.length
  | [], _, r, h => by cases h
  | p :: ps, k, r, h => by
    rcases List.mem_cons.1 h with rfl | h
    · rw [length_recL]; omega
    · exact recW_pos ps _ r h
theorem AC.fullW {x : Fl} {ss : List ByteArray} {k : Nat} (h : AC x ss k) : ∀ s ∈ x.ws, 0 < s.size := by
  intro s hs
  have h1 : bs s ∈ x.ws.map bs := List.mem_map_of_mem hs
  rw [h.ws] at h1
  have := recW_pos _ _ _ h1
  rwa [length_bs] at this
theorem AliveA.fullW {D D' : Dk} {f k : Nat} {ss : List ByteArray} (a : AliveA D D' f) (h : FullW D) (hx : AC (D'.l.getD f Fl.zero) ss k) : FullW D' := by
  intro j hj
  rw [a.len] at hj
  by_cases e : j = f
  · subst e; exact hx.fullW
  · rw [a.other j e]; exact h j hj
theorem fullW_zero (n : Nat) : FullW (dk0 (List.replicate n Fl.zero)) := by
  intro j hj s hs
  rw [show (dk0 (List.replicate n Fl.zero)).l = List.replicate n Fl.zero from rfl, getD_zeros] at hs
  cases hs
/-- A log whose texts do not lie in the block N. -/
def AFr (N : Option Nat) (w : World) (lb b f : Nat) (quota : Int) (ss : List ByteArray) (dead : Bool) : Prop :=
  ∃ v, IsALog w lb ⟨⟨b, 0, none⟩, (f : Nat), quota, v, strOf (linkL (ss.map bs)), dead⟩ ∧ WS w v ss ∧ ∀ k, v.ownBlock = some k → N ≠ some k
theorem WS.ltB {w : World} {v : Value} {ss : List ByteArray} (h : WS w v ss) {k : Nat} (hk : v.ownBlock = some k) : k < w.heap.size := by
  rcases h.2 with ⟨rfl, _⟩ | ⟨g, cap, cur, rfl, _, q3, _⟩
  · cases hk
  · injection hk with hk
    subst hk
    exact (Array.getElem?_eq_some_iff.1 q3).1
theorem IsAL.fr {N : Option Nat} {w : World} {lb b f : Nat} {quota : Int} {ss : List ByteArray} {dd : Bool} (h : IsAL w lb b f quota ss dd) (hN : ∀ k, N = some k → w.heap.size ≤ k) : AFr N w lb b f quota ss dd := by
  obtain ⟨v, h1, h2⟩ := h
  exact ⟨v, h1, h2, fun k hk e => absurd (h2.ltB hk) (by have := hN k e; omega)⟩
theorem AFr.al {N : Option Nat} {w : World} {lb b f : Nat} {quota : Int} {ss : List ByteArray} {dd : Bool} (h : AFr N w lb b f quota ss dd) : IsAL w lb b f quota ss dd := by
  obtain ⟨v, h1, h2, _⟩ := h
  exact ⟨v, h1, h2⟩
theorem AFr.below {N : Option Nat} {w w' : World} {lb b f : Nat} {quota : Int} {ss : List ByteArray} {dd : Bool} (h : AFr N w lb b f quota ss dd) (hb : Below w.heap.size w w') : AFr N w' lb b f quota ss dd := by
  obtain ⟨v, h1, h2, h3⟩ := h
  exact ⟨v, h1.below hb h1.lt, h2.below hb, h3⟩
theorem AFr.appendedZ {base : Nat} {w w' : World} {lb b f : Nat} {quota : Int} {ss us : List ByteArray} {dd : Bool} {v v' : Value} (h : AFr v.ownBlock w lb b f quota ss dd) (hown : OwnsZ w base v us) (hg : w.grownBy w' v.ownBlock) (hv : v'.ownBlock = v.ownBlock ∨ v'.ownBlock = some w.heap.size) : AFr v'.ownBlock w' lb b f quota ss dd := by
  obtain ⟨u, h1, h2, h3⟩ := h
  refine ⟨u, h1.appendedZ hown hg, ⟨h2.1, ?_⟩, fun k hk e => ?_⟩
  · rcases h2.2 with q | ⟨g, cap, cur, q1, q2, q3, q4⟩
    · exact .inl q
    · exact .inr ⟨g, cap, cur, q1, q2, (hg.block g (Array.getElem?_eq_some_iff.1 q3).1 (fun e => h3 g (by rw [q1]; rfl) e.symm)).trans q3, q4⟩
  · rcases hv with hv | hv
    · exact h3 k hk (hv ▸ e)
    · rw [hv] at e
      injection e with e
      have := h2.ltB hk
      omega
section
variable {B b g cap lb f k : Nat} {w0 w w' : World} {quota : Int} {ss : List ByteArray} {D D' : Dk}
/-- A text that is taken: the log's texts lie in a new block. -/
theorem ASt.appF (h : ASt B w0 b g cap lb f quota ss k D w) (T : ByteArray) (hr0 : aRes quota ss T = 0) :
    Calls Tryd.prog 8 #[.pointer (some ⟨lb, 0, none⟩), .string T] w fun e w' => e = .returned (.int .i64 0) ∧ ∃ D', ASt B w0 b g cap lb f quota (ss ++ [T]) k D' w' ∧ Chg (fun k => k = lb ∨ k = b ∨ k = g) w w' ∧ AliveA D D' f ∧ ∀ N : Option Nat, (∀ k, N = some k → k < w.heap.size) → AFr N w' lb b f quota (ss ++ [T]) false := by
  have hz := h.hz
  have hT : T.size ≤ 1024 ∧ ¬ aroom quota (zT ss) < (T.size : Int) := by
    unfold aRes at hr0
    split at hr0
    · cases hr0
    · split at hr0
      · cases hr0
      · exact ⟨by omega, by assumption⟩
  rw [← hz] at hT
  have hM := h.log.muts3 h.on.disk
  have hn := h.log.ne h.on.disk
  have hfew := h.n
  have hx := h.ac
  have hf := h.hf
  have hat := h.on
  obtain ⟨v, h1, h2⟩ := h.log
  have hrm := aroom_le hT.2
  have hq := h.q
  have hlk : (strOf (linkL (ss.map bs))).size = 32 := by rw [size_strOf, length_linkL]
  have hbl : bs (strOf (linkL (ss.map bs))) = linkL (ss.map bs) := bs_strOf _ (linkL_lt _)
  have e51 : (recS (ss.length + 1) (T ++ strOf (nextL (linkL (ss.map bs)) (bs T)))).size = 51 + T.size := by rw [size_recS, ByteArray.size_append, size_strOf, length_nextL]; omega
  have hnx : strOf (linkL ((ss ++ [T]).map bs)) = strOf (nextL (linkL (ss.map bs)) (bs T)) := by rw [List.map_append, List.map_singleton, linkL_snoc]
  have hap := hx.app T (by omega)
  have hm := h.few.many
  rcases writeX_c h.ok h.al f (recS (ss.length + 1) (T ++ strOf (nextL (linkL (ss.map bs)) (bs T)))) hf (by rw [e51]; omega) (hm f hf) with ⟨D', e, hl⟩ | ⟨D', e, hl⟩
  · refine (aappendOk (T := T) h1 (h2.txA hM) (by omega) h.on.disk h.ok hm hn hf rfl rfl hq rfl hlk (by omega) (by show (T.size : Int) ≤ aroom quota _; omega) (by rw [hbl, e])).mono ?_
    rintro e' w' ⟨q1, v', q2, q3, q4, q5⟩
    rw [hbl, e] at q4
    rw [hbl] at q2
    have hac : AC (D'.l.getD f Fl.zero) (ss ++ [T]) k := by rw [hl.l, getD_set_self _ _ _ _ hf]; exact hap
    have ha := hl.aliveA
    exact ⟨q1, D', ⟨hat.chg3 q4 h.lB q5, ⟨v', by rw [hnx]; exact q2, q3.ws⟩, hl.ok, hl.al, ha.ar h.ar, by rw [ha.len]; exact hf, hac, hq, h.lB, ha.few h.few hac hf⟩, q5, ha, fun N hN => ⟨v', by rw [hnx]; exact q2, q3.ws, fun k hk e => by have h1 := World.ownsRow.lt q3 k hk; have h2 := hN k e; omega⟩⟩
  · exact absurd h.ar hl.ar
/-- A text that is too long: nothing changes. -/
theorem ASt.appL (h : ASt B w0 b g cap lb f quota ss k D w) (T : ByteArray) (hT : 1024 < T.size) :
    Calls Tryd.prog 8 #[.pointer (some ⟨lb, 0, none⟩), .string T] w fun e w' => e = .returned (.int .i64 190) ∧ w' = w := by
  obtain ⟨v, h1, h2⟩ := h.log
  exact aappendLong h1 rfl T hT
/-- Behind an append to strings of the call's own, elsewhere than the log's texts. -/
theorem ASt.appendedZ {us : List ByteArray} {v : Value} (h : ASt B w0 b g cap lb f quota ss k D w) (hF : AFr v.ownBlock w lb b f quota ss false) (hown : OwnsZ w B v us) (hg : w.grownBy w' v.ownBlock)
    (hk : ∀ u us, WS w u us → (∀ s ∈ us, 0 < s.size) → WS w' u us) (hW : FullW D) : ASt B w0 b g cap lb f quota ss k D w' :=
  ⟨h.on.appendedZ hown hg hk hW, (hF.appendedZ hown hg (v' := v) (.inl rfl)).al, h.ok, h.al, h.ar, h.hf, h.ac, h.q, h.lB, h.few⟩
end
section
variable {P : Program} {Q : Exit → Act → World → Prop} {md : Region.Mode} {S : World → Prop} {n : Nat}
/-- An operation that makes memory, below n. -/
theorem runU (i : Nat) {l : List Oper} {o : Oper} {r : List Oper} {fuel : Nat} {listed : Array Bool} {a : Act} {w : World} {v : Value} {w' : World} (hi : l.drop i = o :: r) (hin : decide (i < n) = true) (hw : Region.wanted o (yielded l.toArray a.tmps) = true)
    (hrun : (execOp a.eval o).run P w = .ok (.value v) w')
    (h : S w' ∧ wpAnyU P md l.toArray n Q S fuel (listed.setIfInBounds i true) (a.put o.dst v) w') :
    if i < n then wpOp P l.toArray Q i (fun a' w' => S w' ∧ wpAnyU P md l.toArray n Q S fuel (listed.setIfInBounds i true) a' w') a w else wpOp P l.toArray Q i (wpAny P md l.toArray Q fuel (listed.setIfInBounds i true)) a w := by
  refine someU i hi hin ?_
  rw [if_pos hw]
  unfold Oper.wp
  rw [hrun]
  exact h
end
end Go.Proofs.YtilpbjcbffbjeaaDoor
