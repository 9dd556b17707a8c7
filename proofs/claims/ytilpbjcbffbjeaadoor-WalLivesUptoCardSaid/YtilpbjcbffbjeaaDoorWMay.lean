/- States (a snapshot, records) in the memory of the law WalLives: a row of them, and whether one is among them. -/
import Derived.Test.YtilpbjcbffbjeaaDoorWRun
namespace Go.Proofs.YtilpbjcbffbjeaaDoor
set_option linter.unusedVariables false
set_option maxRecDepth 100000
open Go.RowKit
theorem infoState : (Tryd.prog.info? 50).map (fun i => (i.zero, i.size, i.bytes)) = some (some (.agg #[.string ⟨#[]⟩, .slice none 0 0]), 2, 40) := by kernel_rfl
/-- The cells of states whose records stand in the rows lvs. -/
def stc (may : List (ByteArray × List ByteArray)) (lvs : List Value) : List Value := (may.zip lvs).flatMap fun p => [.string p.1.1, p.2]
theorem length_stc (may : List (ByteArray × List ByteArray)) (lvs : List Value) (h : lvs.length = may.length) : (stc may lvs).length = may.length * 2 := by
  have : ∀ l : List ((ByteArray × List ByteArray) × Value), (l.flatMap fun p => [Value.string p.1.1, p.2]).length = l.length * 2 := by
    intro l
    induction l with
    | nil => rfl
    | cons a l ih => rw [List.flatMap_cons, List.length_append, ih, List.length_cons]; simp; omega
  unfold stc
  rw [this, List.length_zip, h, Nat.min_self]
theorem stc_snoc (may : List (ByteArray × List ByteArray)) (lvs : List Value) (h : lvs.length = may.length) (x : ByteArray × List ByteArray) (u : Value) : stc (may ++ [x]) (lvs ++ [u]) = stc may lvs ++ [.string x.1, u] := by
  unfold stc
  rw [List.zip_append h.symm, List.flatMap_append]
  rfl
theorem stc_get (may : List (ByteArray × List ByteArray)) : ∀ (lvs : List Value) (h : lvs.length = may.length) (i : Nat) (hi : i < may.length), (stc may lvs)[i * 2]? = some (.string (may.getD i (⟨#[]⟩, [])).1) ∧ (stc may lvs)[i * 2 + 1]? = some (lvs.getD i (.slice none 0 0)) := by
  induction may with
  | nil => intro lvs _ i hi; simp at hi
  | cons x may ih =>
    intro lvs h i hi
    cases lvs with
    | nil => simp at h
    | cons u lvs =>
      have e : stc (x :: may) (u :: lvs) = [.string x.1, u] ++ stc may lvs := rfl
      rw [e]
      cases i with
      | zero => exact ⟨rfl, rfl⟩
      | succ i =>
        have h2 := ih lvs (by simpa using h) i (by simpa using hi)
        rw [show (i + 1) * 2 = i * 2 + 2 by omega, show i * 2 + 2 + 1 = (i * 2 + 1) + 2 by omega]
        rw [List.getElem?_append_right (by simp), List.getElem?_append_right (by simp)]
        simpa using h2
/-- A row of states, from block base on. -/
def MayV (w : World) (base : Nat) (v : Value) (may : List (ByteArray × List ByteArray)) : Prop :=
  ∃ lvs : List Value, lvs.length = may.length ∧ w.ownsRow base 50 2 v may.length (stc may lvs) ∧ ∀ i, i < may.length → WS w (lvs.getD i (.slice none 0 0)) (may.getD i (⟨#[]⟩, [])).2
section
variable {S : Nat → Prop} {w w' : World} {base : Nat} {v : Value} {may : List (ByteArray × List ByteArray)}
theorem MayV.block (h : MayV w base v may) {k : Nat} (hk : v.ownBlock = some k) : base ≤ k ∧ k < w.heap.size := by
  obtain ⟨lvs, _, h2, _⟩ := h
  exact World.ownsRow.lt h2 k hk
theorem MayV.form (h : MayV w base v may) : ∃ p cap, v = .slice p may.length cap := by
  obtain ⟨lvs, _, h2, _⟩ := h
  rcases h2.2 with ⟨hv, hn⟩ | ⟨g, cap, cur, hv, _⟩
  · exact ⟨none, 0, by rw [hv, hn]⟩
  · exact ⟨_, cap, hv⟩
/-- Its own block is of states. -/
theorem MayV.ty (h : MayV w base v may) {k : Nat} (hk : v.ownBlock = some k) : ∃ cur, w.heap[k]? = some (.cells cur 50 (0, 0)) := by
  obtain ⟨lvs, _, h2, _⟩ := h
  rcases h2.2 with ⟨hv, hn⟩ | ⟨g, cap, cur, hv, hb, hg, _⟩
  · rw [hv] at hk; cases hk
  · rw [hv] at hk
    have e : g = k := by simpa [Value.ownBlock] using hk
    exact ⟨cur, e ▸ hg⟩
theorem MayV.keep (h : MayV w base v may) (hc : Chg S w w') (hm : Muts S w) (hS : ∀ k, base ≤ k → ¬ S k) : MayV w' base v may := by
  obtain ⟨lvs, h1, h2, h3⟩ := h
  refine ⟨lvs, h1, ⟨h2.1, ?_⟩, fun i hi => (h3 i hi).keep hc hm⟩
  rcases h2.2 with h4 | ⟨g, cap, cur, hv, hb, hg, h5⟩
  · exact .inl h4
  · exact .inr ⟨g, cap, cur, hv, hb, (hc.block g (Array.getElem?_eq_some_iff.1 hg).1 (hS g hb)).trans hg, h5⟩
theorem MayV.below (h : MayV w base v may) (hb : Below w.heap.size w w') : MayV w' base v may := by
  obtain ⟨lvs, h1, h2, h3⟩ := h
  refine ⟨lvs, h1, ⟨h2.1, ?_⟩, fun i hi => (h3 i hi).below hb⟩
  rcases h2.2 with h4 | ⟨g, cap, cur, hv, hB, hg, h5⟩
  · exact .inl h4
  · exact .inr ⟨g, cap, cur, hv, hB, (hb.block g (Array.getElem?_eq_some_iff.1 hg).1).trans hg, h5⟩
theorem MayV.get (h : MayV w base v may) (i : Nat) (hi : i < may.length) : ∃ g n c lv, v = .slice (some ⟨g, 0, none⟩) n c ∧ w.cell? ⟨g, i * 2, none⟩ = some (.string (may.getD i (⟨#[]⟩, [])).1) ∧ w.cell? ⟨g, i * 2 + 1, none⟩ = some lv ∧ WS w lv (may.getD i (⟨#[]⟩, [])).2 := by
  obtain ⟨lvs, h1, h2, h3⟩ := h
  have hg := stc_get may lvs h1 i hi
  have h2' := h2
  rcases h2.2 with ⟨_, hn⟩ | ⟨g, cap, cur, hv, hB, hg', h5⟩
  · omega
  · subst hv
    have hc := fun j hj => World.ownsRow.cellAt (w := w) (base := base) (e := 50) (size := 2) (g := g) (cap := cap) (n := may.length) (xs := stc may lvs) h2' j hj
    exact ⟨g, may.length, cap, _, rfl, (hc (i * 2) (by omega)).trans hg.1, (hc (i * 2 + 1) (by omega)).trans hg.2, h3 i hi⟩
/-- One state by itself. -/
theorem MayV.one (w : World) (s : ByteArray) (lv : Value) (ps : List ByteArray) (h : WS w lv ps) (hb : base ≤ w.heap.size) : MayV (w.alloc (.cells #[.string s, lv] 50)) base (.slice (some ⟨w.heap.size, 0, none⟩) 1 1) [(s, ps)] := by
  refine ⟨[lv], rfl, World.ownsRow_lit (base := base) w #[.string s, lv] 1 hb (by decide) rfl, fun i hi => ?_⟩
  obtain rfl : i = 0 := by simpa using hi
  exact h.below ((Below.refl _ _).alloc (Nat.le_refl _) _)
end
section
variable {ops : Array Oper} {rest : List Oper} {o : Oper} {a : Act} {w : World} {Q : Exit → Act → World → Prop} {base : Nat} {v : Value} {may : List (ByteArray × List ByteArray)}
/-- A state is put behind others. -/
theorem wpList_append_may (hgd : o.guard = none) (s x : Operand) (ho : o.op = .call { callee := .builtin .append, args := #[s, x], argTypes := #[55, 55] })
    (hs : a.eval s = v) (hown : MayV w base v may) (g c : Nat) (sn : ByteArray) (lv : Value) (ps : List ByteArray) (hx : a.eval x = .slice (some ⟨g, 0, none⟩) 1 c) (h0 : w.cell? ⟨g, 0, none⟩ = some (.string sn)) (h1 : w.cell? ⟨g, 1, none⟩ = some lv) (hlv : WS w lv ps)
    (hsz : may.length ≤ 4194304) (hbase : base ≤ w.heap.size)
    (h : ∀ v' w', MayV w' base v' (may ++ [(sn, ps)]) → Chg (fun k => v.ownBlock = some k) w w' → Muts (fun k => v.ownBlock = some k) w → wpList Tryd.prog ops Q rest (a.put o.dst v') w') : wpList Tryd.prog ops Q (o :: rest) a w := by
  obtain ⟨i0, hi0, hz0, hz1, hz2⟩ := info_parts infoState
  have hty := fun k hk => hown.ty (k := k) hk
  obtain ⟨lvs, q1, q2, q3⟩ := hown
  have hone : lv.oneCell' = true := by
    obtain ⟨p, cap, rfl, _⟩ := hlv.form
    rfl
  refine wpList_append_own_at w hgd s x 55 ho base 50 i0 (.agg #[.string ⟨#[]⟩, .slice none 0 0]) 2 40 Tryd.underlying55 hi0 hz0 hz1 hz2 rfl (by decide) v may.length (stc may lvs) hs q2 ⟨g, 0, none⟩ 1 c [.string sn, lv] hx rfl ?_ ?_ (by unfold maxLen; omega) (by omega) hbase ?_
  · intro j u hu
    have hj : j < 2 := (List.getElem?_eq_some_iff.1 hu).1
    match j, hj with
    | 0, _ => rw [show u = .string sn by simpa using hu.symm]; exact h0
    | 1, _ => rw [show u = lv by simpa using hu.symm]; exact h1
  · intro u hu
    rcases List.mem_cons.1 hu with e | hu
    · rw [e]; rfl
    · rw [List.mem_singleton.1 hu]; exact hone
  · intro v' w' r1 r2 _ _
    have hc : Chg (fun k => v.ownBlock = some k) w w' := ⟨r2.os, r2.tape, r2.output, r2.size, fun k hk hn => r2.block k hk (fun e => hn e.symm)⟩
    have hm : Muts (fun k => v.ownBlock = some k) w := by
      intro k hk hS cur T fr hh
      obtain ⟨cur', h2⟩ := hty k hS
      rw [h2] at hh
      injection hh with hh
      injection hh with _ hT _
      subst hT
      unfold Fix
      decide
    refine h v' w' ⟨lvs ++ [lv], by rw [List.length_append, List.length_append, q1]; rfl, ?_, fun i hi => ?_⟩ hc hm
    · rw [List.length_append, stc_snoc may lvs q1]
      exact r1
    · rw [List.length_append] at hi
      by_cases hlt : i < may.length
      · have e1 : (lvs ++ [lv]).getD i (.slice none 0 0) = lvs.getD i (.slice none 0 0) := by rw [List.getD_eq_getElem?_getD, List.getD_eq_getElem?_getD, List.getElem?_append_left (by omega)]
        have e2 : (may ++ [(sn, ps)]).getD i (⟨#[]⟩, []) = may.getD i (⟨#[]⟩, []) := by rw [List.getD_eq_getElem?_getD, List.getD_eq_getElem?_getD, List.getElem?_append_left hlt]
        rw [e1, e2]
        exact (q3 i hlt).keep hc hm
      · have hie : i = may.length := by simp at hi; omega
        have e1 : (lvs ++ [lv]).getD i (.slice none 0 0) = lv := by rw [List.getD_eq_getElem?_getD, List.getElem?_append_right (by omega), hie, q1]; simp
        have e2 : (may ++ [(sn, ps)]).getD i (⟨#[]⟩, []) = (sn, ps) := by rw [List.getD_eq_getElem?_getD, List.getElem?_append_right (by omega), hie]; simp
        rw [e1, e2]
        exact hlv.keep hc hm
end
set_option maxHeartbeats 800000 in
theorem lwsameW (s t : ByteArray) (v u : Value) (ss ts : List ByteArray) (w : World) (h : Strs w v ss) (k : Strs w u ts) (h1 : ss.length ≤ 1048576) (h2 : ts.length ≤ 1048576) :
    Calls Tryd.prog 31 #[.agg #[.string s, v], .agg #[.string t, u]] w fun e w' => e = .returned (.bool (decide ((s, ss) = (t, ts)))) ∧ Below w.heap.size w w' := by
  have HS := Lib.hid (fun (w1 : World) (hb : Below w.heap.size w w1) => sameW v u ss ts w1 (h.below hb) (k.below hb) h1 h2)
  obtain ⟨p, c, rfl, _⟩ := h.form
  obtain ⟨q, d, rfl, _⟩ := k.form
  have hb1 : Below w.heap.size w ((w.alloc (.cells #[.string s, .slice p ss.length c] 50)).alloc (.cells #[.string t, .slice q ts.length d] 50)) := ((Below.refl _ _).alloc (Nat.le_refl _) _).alloc (by simp) _
  have HB := Lib.hid hb1
  clear h k hb1
  by_cases hst : s = t
  · subst hst
    have hsd : (s.toList == s.toList) = true := by rw [toList_beq]; exact decide_eq_true rfl
    go_enter Tryd.func31, Tryd.ntmps31
    go_wp2_with fail
    refine (HS.out _ HB.out).mono ?_
    rintro e w1 ⟨rfl, hb⟩
    have HB1 := Lib.hid (HB.out.trans (hb.mono HB.out.size))
    clear hb
    go_wp2_with fail
    go_ret
    have hd : decide (ss = ts) = decide ((s, ss) = (s, ts)) := by
      by_cases e : ss = ts
      · rw [decide_eq_true e, decide_eq_true (by rw [e])]
      · rw [decide_eq_false e, decide_eq_false (fun h => e (Prod.mk.inj h).2)]
    exact ⟨congrArg (fun x => Ending.returned (.bool x)) hd, HB1.out⟩
  · have hsd : (s.toList == t.toList) = false := by rw [toList_beq]; exact decide_eq_false hst
    go_enter Tryd.func31, Tryd.ntmps31
    go_wp2_with fail
    go_ret
    refine ⟨?_, HB.out⟩
    rw [decide_eq_false (fun h => hst (Prod.mk.inj h).1)]
    rfl
set_option maxHeartbeats 1600000 in
theorem amongW (s : ByteArray) (v u : Value) (ss : List ByteArray) (base : Nat) (may : List (ByteArray × List ByteArray)) (w : World) (h : Strs w v ss) (k : MayV w base u may) (h1 : ss.length ≤ 1048576) (h2 : ∀ i, i < may.length → (may.getD i (⟨#[]⟩, [])).2.length ≤ 1048576) (h3 : may.length ≤ 4194304)
    (hin : (s, ss) ∈ may) :
    Calls Tryd.prog 30 #[.agg #[.string s, v], u] w fun e w' => e = .returned (.bool true) ∧ Below w.heap.size w w' := by
  obtain ⟨p, c, hv, _⟩ := h.form
  obtain ⟨q, d, hu⟩ := k.form
  obtain ⟨m, hm⟩ : ∃ m, m = may.length := ⟨_, rfl⟩
  obtain ⟨W, hW⟩ : ∃ W, W = w.alloc (.cells #[.string s, v] 50) := ⟨_, rfl⟩
  have hb0 : Below w.heap.size w W := by rw [hW]; exact (Below.refl _ _).alloc (Nat.le_refl _) _
  have hx0 : W.cell? ⟨w.heap.size, 0, none⟩ = some (.string s) := by rw [hW]; simp
  have hx1 : W.cell? ⟨w.heap.size, 1, none⟩ = some v := by rw [hW]; simp
  have hsz : w.heap.size < W.heap.size := by rw [hW]; simp
  obtain ⟨i0, hi0, he0⟩ := List.getElem_of_mem hin
  have hin' : may.getD i0 (⟨#[]⟩, []) = (s, ss) := by rw [List.getD_eq_getElem?_getD, List.getElem?_eq_getElem hi0]; exact he0
  have HIN := Lib.hid hin'
  have HI0 : Hid (i0 < m) := by unfold Hid; omega
  have HK := Lib.hid (k.below hb0)
  have HV := Lib.hid (h.below hb0)
  have HB0 := Lib.hid hb0
  have H2 := Lib.hid h2
  have HM := Lib.hid hm
  have HX0 := Lib.hid hx0
  have HX1 := Lib.hid hx1
  have HU := Lib.hid hu
  have HVV := Lib.hid hv
  rw [← hm] at hu h3
  subst hu hv
  have HW := Lib.hid hW
  clear h k hb0 h2 hin hin' hi0 he0 hm hx0 hx1 hW
  go_enter Tryd.func30, Tryd.ntmps30
  go_wp2_with fail
  rw [← HW.out]
  go_loopw [5] (fun vi wr => ∃ i : Nat, i ≤ m ∧ vi = .int .i64 (i : Nat) ∧ Below W.heap.size W wr ∧ i ≤ i0) (fun vi _ => (m - intOf vi).toNat)
  case atStart => exact ⟨0, by omega, rfl, Below.refl _ _, by omega⟩
  case round =>
    obtain ⟨i, hi, rfl, hb, hle⟩ := hrel
    have hi00 := HI0.out
    have hlt : i < m := by omega
    have HB := Lib.hid hb
    have HLE := Lib.hid hle
    obtain ⟨g, n', c', lv, hg, hc0, hc1, hws⟩ := HK.out.get i (by rw [← HM.out]; exact hlt)
    have hq := (Value.slice.inj hg).1
    clear hg
    subst hq
    obtain ⟨x, hx⟩ : ∃ x, x = may.getD i (⟨#[]⟩, []) := ⟨_, rfl⟩
    obtain ⟨x1, x2⟩ := x
    rw [← hx] at hc0 hws
    have hgl : g < W.heap.size := block_lt_of_cell hc0
    obtain ⟨lp, lcap, hlv, _⟩ := hws.form
    dsimp only at hlv hws hc0
    have c0 : ∀ t : Grow wr, t.val.cell? ⟨g, i * 2, none⟩ = some (.string x1) := fun t => ((hb.trans (t.below.mono hb.size)).cell hgl).trans hc0
    have c1 : ∀ t : Grow wr, t.val.cell? ⟨g, i * 2 + 1, none⟩ = some (.slice lp x2.length lcap) := fun t => ((hb.trans (t.below.mono hb.size)).cell hgl).trans (hlv ▸ hc1)
    have d0 : ∀ t : Grow wr, t.val.cell? ⟨w.heap.size, 0, none⟩ = some (.string s) := fun t => ((hb.trans (t.below.mono hb.size)).cell (block_lt_of_cell HX0.out)).trans HX0.out
    have d1 : ∀ t : Grow wr, t.val.cell? ⟨w.heap.size, 1, none⟩ = some (.slice p ss.length c) := fun t => ((hb.trans (t.below.mono hb.size)).cell (block_lt_of_cell HX1.out)).trans HX1.out
    have HC : Hid (∀ t : Grow wr, Calls Tryd.prog 31 #[.agg #[.string s, .slice p ss.length c], .agg #[.string x1, .slice lp x2.length lcap]] t.val fun e w' => e = .returned (.bool (decide ((s, ss) = (x1, x2)))) ∧ Below t.val.heap.size t.val w') := fun t =>
      lwsameW s x1 _ _ ss x2 t.val (HV.out.below (hb.trans (t.below.mono hb.size))) (hlv ▸ hws.strs.below (hb.trans (t.below.mono hb.size))) h1 (by have := H2.out i (by rw [← HM.out]; exact hlt); rw [← hx] at this; exact this)
    have HXX := Lib.hid hx
    clear hc0 hc1 hws hb hle hlv hx
    by_cases hsame : (s, ss) = (x1, x2)
    · rw [decide_eq_true hsame] at HC
      go_wp2_with fail
      refine wp_region_fam (by kernel_rfl) (by kernel_rfl) Grow.val (Grow.start wr) ?_
      repeat go_big_quiet_step (with_reducible refine Calls.fam_of (HC.out _) (Grow.more _))
      refine wpQuiet_nil ?_
      intro t
      clear c0 c1 d0 d1 HC
      go_wp2_with fail
      go_ret
      exact ⟨rfl, HB0.out.trans ((HB.out.trans (t.below.mono HB.out.size)).mono (by omega))⟩
    · rw [decide_eq_false hsame] at HC
      have hne : i ≠ i0 := fun e => hsame (by rw [HXX.out, e, HIN.out])
      go_wp2_with fail
      refine wp_region_fam (by kernel_rfl) (by kernel_rfl) Grow.val (Grow.start wr) ?_
      repeat go_big_quiet_step (with_reducible refine Calls.fam_of (HC.out _) (Grow.more _))
      refine wpQuiet_nil ?_
      intro t
      clear c0 c1 d0 d1 HC
      go_wp2_with fail
      exact ⟨⟨i + 1, by omega, rfl, HB.out.trans (t.below.mono HB.out.size), by have := HLE.out; omega⟩, by simp [intOf]; omega⟩
end Go.Proofs.YtilpbjcbffbjeaaDoor
