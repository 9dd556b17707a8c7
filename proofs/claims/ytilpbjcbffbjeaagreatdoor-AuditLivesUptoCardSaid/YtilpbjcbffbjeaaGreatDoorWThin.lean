/- append of a string to strings of the call's own beside a disk: the disk's writes stay, as they are fewer, or others. -/
import Derived.Test.YtilpbjcbffbjeaaGreatDoorWRun
import Derived.Maps.AppendAt
namespace Go.Proofs.YtilpbjcbffbjeaaGreatDoor
set_option linter.unusedVariables false
set_option maxRecDepth 100000
open Go.RowKit
/-- Rows that an append behind n strings leaves: no more than those, or with another first one. -/
def Left (ss us : List ByteArray) : Prop := us.length ≤ ss.length ∨ (0 < ss.length ∧ 0 < us.length ∧ us.getD 0 ⟨#[]⟩ ≠ ss.getD 0 ⟨#[]⟩)
theorem wpList_append_s2 {ops : Array Oper} {rest : List Oper} {o : Oper} {a : Act} {w : World} {Q : Exit → Act → World → Prop} {base : Nat} {v : Value} {ss : List ByteArray}
    (hgd : o.guard = none) (s x : Operand) (ho : o.op = .call { callee := .builtin .append, args := #[s, x], argTypes := #[28, 28] })
    (hs : a.eval s = v) (hown : OwnsS w base v ss) (h0 : ss = [] → ∃ p, v = .slice p 0 0) (ad : Addr) (c : Nat) (new : ByteArray) (hx : a.eval x = .slice (some ad) 1 c)
    (hnew : w.cell? ad = some (.string new)) (hsz : ss.length ≤ 1048576) (hbase : base ≤ w.heap.size)
    (h : ∀ v' w', OwnsS w' base v' (ss ++ [new]) → w.grownBy w' v.ownBlock → (∀ u us, WS w u us → (Left ss us ∨ ss = []) → WS w' u us) → wpList Tryz.prog ops Q rest (a.put o.dst v') w') : wpList Tryz.prog ops Q (o :: rest) a w := by
  obtain ⟨i0, hi0, hz0, hz1, hz2⟩ := info_parts infoStr
  have hne : ∀ j u, [Value.string new][j]? = some u → w.cell? (ad.add j) = some u := by
    intro j u hu
    have hj : j = 0 := by have := (List.getElem?_eq_some_iff.1 hu).1; simp at this; exact this
    subst hj
    rw [show u = .string new by simpa using hu.symm]
    rw [show ad.add 0 = ad by unfold Addr.add; rfl]
    exact hnew
  have h1c : ∀ u ∈ [Value.string new], u.oneCell' = true := by simp [Value.oneCell']
  have keepAll : ∀ w' : World, (∀ k, k < w.heap.size → w'.heap[k]? = w.heap[k]?) → ∀ u us, WS w u us → WS w' u us := by
    intro w' hk u us hu
    refine ⟨hu.1, ?_⟩
    rcases hu.2 with q | ⟨g, cap, cur, q1, q2, q3, q4⟩
    · exact .inl q
    · exact .inr ⟨g, cap, cur, q1, q2, (hk g (Array.getElem?_eq_some_iff.1 q3).1).trans q3, q4⟩
  have fin : ∀ v' w', (Builtin.append_ #[28, 28] o.type #[v, .slice (some ad) 1 c]).run Tryz.prog w = .ok v' w' → OwnsS w' base v' (ss ++ [new]) → w.grownBy w' v.ownBlock → (∀ u us, WS w u us → (Left ss us ∨ ss = []) → WS w' u us) → wpList Tryz.prog ops Q (o :: rest) a w := by
    intro v' w' hr q1 q2 q3
    refine wpList_plain hgd fun K hK => ?_
    unfold Oper.wp execOp
    simp only [ho, resolve, invoke, builtin, Sem.run_bind, Sem.run_pure, Result.andThen_ok, List.map_toArray, List.map_cons, List.map_nil, hs, hx, hr]
    exact hK _ _ (h v' w' q1 q2 q3)
  have hown0 : w.ownsRow base 9 1 v ss.length (ss.map Value.string) := hown
  obtain ⟨v', w', hr, h2, h3, h4, h5⟩ := run_append_own_at (P := Tryz.prog) w base 28 o.type 9 i0 (.string ⟨#[]⟩) 1 16 Tryz.underlying28 hi0 hz0 hz1 hz2 rfl (by decide) v ss.length (ss.map Value.string) hown0 ad 1 c [.string new] rfl hne h1c (by unfold maxLen; omega) (by omega) hbase
  have hO : OwnsS w' base v' (ss ++ [new]) := by
    unfold OwnsS
    rw [List.length_append, List.map_append]
    exact h2
  refine fin v' w' hr hO h3 fun u us hu hL => ?_
  rcases hown0.2 with ⟨rfl, hn⟩ | ⟨g, cap, cur, rfl, hbg, hg, hnc, hcm, hcs, htake⟩
  · exact keepAll w' (fun k hk => h3.block k hk (by simp [Value.ownBlock])) u us hu
  · by_cases hroom : ss.length + 1 ≤ cap
    · have hss : ss ≠ [] := by
        intro e
        obtain ⟨p, hp⟩ := h0 e
        injection hp with _ _ hcap
        omega
      have hL : Left ss us := hL.resolve_right hss
      have hfit : ss.length * i0.size + [Value.string new].length ≤ cur.size := by rw [hz1, hcs]; simpa using hroom
      have hr2 := run_append_room (P := Tryz.prog) w 28 o.type 9 i0 Tryz.underlying28 hi0 g ss.length cap cur hg ad 1 c [.string new] (by rw [hz1]; rfl) hne h1c hroom hfit
      rw [hr] at hr2
      injection hr2 with _ hw
      subst hw
      refine ⟨hu.1, ?_⟩
      rcases hu.2 with q | ⟨g', cap', cur', q1, q2, q3, q4, q5, q6, q7⟩
      · exact .inl q
      · by_cases hgg : g' = g
        · subst hgg
          rw [hg] at q3
          injection q3 with q3
          injection q3 with q3 _ _
          subst q3
          refine .inr ⟨g', cap', _, q1, q2, setRow_heap w g' cur _ 9 _ hg, q4, q5, ?_, ?_⟩
          · simp only [List.size_toArray, List.length_append, List.length_take, List.length_drop, Array.length_toList]
            rw [hz1] at hfit ⊢
            simp at hfit ⊢
            omega
          · have hle : (us.map Value.string).length * 1 ≤ ss.length := by
              rw [List.length_map, Nat.mul_one]
              rcases hL with hL | ⟨l1, l2, l3⟩
              · exact hL
              · exfalso
                apply l3
                have e1 : (cur.toList.take (ss.length * 1))[0]? = (cur.toList.take ((us.map Value.string).length * 1))[0]? := by
                  rw [List.getElem?_take, List.getElem?_take, if_pos (by omega), if_pos (by rw [List.length_map]; omega)]
                rw [htake, q7, List.getElem?_map, List.getElem?_map, List.getElem?_eq_getElem l1, List.getElem?_eq_getElem l2] at e1
                simp only [Option.map_some, Option.some.injEq, Value.string.injEq] at e1
                rw [List.getD_eq_getElem?_getD, List.getD_eq_getElem?_getD, List.getElem?_eq_getElem l1, List.getElem?_eq_getElem l2]
                exact e1.symm
            refine Eq.trans ?_ q7
            rw [hz1]
            simp only [List.take_append, List.length_take, Array.length_toList]
            rw [List.take_take, Nat.min_eq_left (by omega)]
            have hz : (us.map Value.string).length * 1 - min (ss.length * 1) cur.size = 0 := by
              rw [hcs, Nat.min_eq_left (by omega)]; omega
            rw [hz]
            simp only [List.length_map, Nat.mul_one] at hle hcs
            simp
            exact .inl (by omega)
        · exact .inr ⟨g', cap', cur', q1, q2, (setRow_other w g g' _ hgg).trans q3, q4, q5, q6, q7⟩
    · have holds : ∀ j u, (ss.map Value.string)[j]? = some u → w.cell? ((⟨g, 0, none⟩ : Addr).add j) = some u := hown0.cells (g := g) rfl
      have hr2 := run_append_grow (P := Tryz.prog) w 28 o.type 9 i0 (.string ⟨#[]⟩) Tryz.underlying28 hi0 hz0 ⟨g, 0, none⟩ ss.length cap (ss.map Value.string) (by rw [hz1, List.length_map, Nat.mul_one]) holds ad 1 c [.string new] (by rw [hz1]; rfl) hne (by omega) (by omega) (growslice_fits (by omega) (by rw [hz2]; omega))
      rw [hr] at hr2
      injection hr2 with _ hw
      subst hw
      exact keepAll _ (fun k hk => Below.heap_alloc w.drew _ k hk) u us hu
/-- A disk's writes, each row no longer than the strings, or another one. -/
structure Thin (l : List Fl) (ss : List ByteArray) : Prop where
  row : ∀ f, f < l.length → Left ss (l.getD f Fl.zero).ws ∨ ss = []
theorem IsDisk.appended {b g cap : Nat} {w w' : World} {l : List Fl} {base : Nat} {v : Value} {ss : List ByteArray} (h : IsDisk w b g cap (dk0 l)) (hown : OwnsS w base v ss) (hg : w.grownBy w' v.ownBlock)
    (hk : ∀ u us, WS w u us → (Left ss us ∨ ss = []) → WS w' u us) (ht : Thin l ss) : IsDisk w' b g cap (dk0 l) := by
  have hown : ∀ k, v.ownBlock = some k → ∃ cur fr, w.heap[k]? = some (.cells cur 9 fr) := by
    intro k hk
    rcases hown.2 with ⟨rfl, _⟩ | ⟨g', cap', cur, rfl, _, hgb, _⟩
    · cases hk
    · injection hk with hk
      subst hk
      exact ⟨cur, _, hgb⟩
  have other : ∀ (k : Nat) (cur : Array Value) (T : TypeId) fr, w.heap[k]? = some (Obj.cells cur T fr) → T ≠ 9 → w'.heap[k]? = w.heap[k]? := by
    intro k cur T fr hb hT
    refine hg.block k (Array.getElem?_eq_some_iff.1 hb).1 (fun e => ?_)
    obtain ⟨cur', fr', h1⟩ := hown k e.symm
    rw [hb] at h1
    injection h1 with h1
    injection h1 with _ h2 _
    exact hT h2
  obtain ⟨cv, h1, us, h2, h3, h4⟩ := h.blk
  have hus : us = [] := List.eq_nil_of_length_eq_zero h2
  subst hus
  refine ⟨⟨cv, (other b _ _ _ h1 (by decide)).trans h1, [], h2, ?_, fun i hi => absurd hi (Nat.not_lt_zero _)⟩, ?_⟩
  · refine ⟨h3.1, ?_⟩
    rcases h3.2 with q | ⟨g', cap', cur, q1, q2, q3, q4⟩
    · exact .inl q
    · exact .inr ⟨g', cap', cur, q1, q2, (other g' _ _ _ q3 (by decide)).trans q3, q4⟩
  · obtain ⟨cur, hb, hs⟩ := h.fs.blk
    have eb := other g _ _ _ hb (by decide)
    have ec : ∀ j, w'.cell? ⟨g, j, none⟩ = w.cell? ⟨g, j, none⟩ := fun j => World.cell?_of_block eb
    refine ⟨⟨cur, eb.trans hb, hs⟩, h.fs.capm, h.fs.len, fun i hi => (ec _).trans (h.fs.safe i hi), fun i hi => ?_⟩
    obtain ⟨u, h5, h6⟩ := h.fs.ws i hi
    exact ⟨u, (ec _).trans h5, hk u _ h6 (ht.row i hi)⟩
theorem LAt.appended {B b g cap lb : Nat} {w0 w w' : World} {l : List Fl} {L : Lg} {v : Value} {ss : List ByteArray} (h : LAt B w0 b g cap lb (dk0 l) L w) (hown : OwnsS w B v ss) (hg : w.grownBy w' v.ownBlock)
    (hk : ∀ u us, WS w u us → (Left ss us ∨ ss = []) → WS w' u us) (ht : Thin l ss) : LAt B w0 b g cap lb (dk0 l) L w' := by
  refine ⟨⟨h.on.disk.appended hown hg hk ht, h.on.below.grown hg (by have := h.on.below.size; have := h.on.le; omega) (fun k hk => (hown.block hk).1), h.on.bB, h.on.gB, h.on.le⟩, ⟨?_⟩, h.lB⟩
  refine (hg.block lb h.log.lt (fun e => ?_)).trans h.log.blk
  rcases hown.2 with ⟨rfl, _⟩ | ⟨g', cap', cur, rfl, _, hgb, _⟩
  · cases e
  · injection e with e
    subst e
    have := h.log.blk
    rw [hgb] at this
    injection this with this
    injection this with _ h2 _
    exact absurd h2 (by decide)
/-- How the writes and the records go together. -/
structure Along (l : List Fl) (ps : List ByteArray) : Prop where
  row : ∀ f, f < l.length → (l.getD f Fl.zero).ws.length ≤ ps.length ∧ ((l.getD f Fl.zero).ws.length = ps.length → 0 < ps.length → (l.getD f Fl.zero).ws.getD 0 ⟨#[]⟩ = recS 1 (ps.getD 0 ⟨#[]⟩))
theorem recS_ne (n : Nat) (p : ByteArray) : recS n p ≠ p := fun h => by have := congrArg ByteArray.size h; rw [size_recS] at this; omega
theorem Along.none {l : List Fl} {ps : List ByteArray} (h : ∀ f, f < l.length → (l.getD f Fl.zero).ws = []) : Along l ps := ⟨fun f hf => by
  rw [h f hf]; exact ⟨Nat.zero_le _, fun h1 h2 => by rw [List.length_nil] at h1; omega⟩⟩
/-- Behind the log's append, ahead of the one to the strings. -/
theorem Along.app {l : List Fl} {ps : List ByteArray} {c n : Nat} {s : ByteArray} (h : Along l ps) (hc : c < l.length) (hn : n = ps.length) :
    Thin (l.set c ⟨(l.getD c Fl.zero).safe, (l.getD c Fl.zero).ws ++ [recS (n + 1) s]⟩) ps ∧ Along (l.set c ⟨(l.getD c Fl.zero).safe, (l.getD c Fl.zero).ws ++ [recS (n + 1) s]⟩) (ps ++ [s]) := by
  have hgd0 : ∀ (x : ByteArray) (xs ys : List ByteArray), 0 < xs.length → (xs ++ ys).getD 0 ⟨#[]⟩ = xs.getD 0 ⟨#[]⟩ := by
    intro x xs ys hx
    rw [List.getD_eq_getElem?_getD, List.getD_eq_getElem?_getD, List.getElem?_append_left hx]
  refine ⟨⟨fun f hf => ?_⟩, ⟨fun f hf => ?_⟩⟩
  · rw [List.length_set] at hf
    obtain ⟨h1, h2⟩ := h.row f hf
    by_cases e : c = f
    · subst e
      rw [getD_set_self _ _ _ _ hc]
      dsimp only
      by_cases hp : ps = []
      · exact .inr hp
      · have hpl : 0 < ps.length := List.length_pos_iff.2 hp
        by_cases hl : (l.getD c Fl.zero).ws.length = ps.length
        · refine .inl (.inr ⟨hpl, by rw [List.length_append]; omega, ?_⟩)
          rw [hgd0 s _ _ (by omega), h2 hl hpl]
          exact recS_ne _ _
        · exact .inl (.inl (by rw [List.length_append, List.length_singleton]; omega))
    · rw [getD_set_ne _ _ _ _ _ e]
      exact .inl (.inl h1)
  · rw [List.length_set] at hf
    obtain ⟨h1, h2⟩ := h.row f hf
    by_cases e : c = f
    · subst e
      rw [getD_set_self _ _ _ _ hc]
      dsimp only
      rw [List.length_append, List.length_append, List.length_singleton, List.length_singleton]
      refine ⟨by omega, fun hl _ => ?_⟩
      have hl' : (l.getD c Fl.zero).ws.length = ps.length := by omega
      by_cases hpl : 0 < ps.length
      · rw [hgd0 s _ _ (by omega), hgd0 s _ _ hpl]; exact h2 hl' hpl
      · have e1 : ps = [] := List.eq_nil_of_length_eq_zero (by omega)
        have e2 : (l.getD c Fl.zero).ws = [] := List.eq_nil_of_length_eq_zero (by omega)
        rw [e2, hn, e1]
        rfl
    · rw [getD_set_ne _ _ _ _ _ e, List.length_append, List.length_singleton]
      exact ⟨by omega, fun hl => by omega⟩
end Go.Proofs.YtilpbjcbffbjeaaGreatDoor
