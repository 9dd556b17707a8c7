/- The law's owned: choices of one's own. -/
import Derived.Test.YtennhmnmoamleaaDDoes3
namespace Go.Proofs.Ytennhmnmoamleaa
set_option linter.unusedVariables false
open Go.RowKit
theorem wpList_append_ints {ops : Array Oper} {rest : List Oper} {o : Oper} {a : Act} {w : World} {Q : Exit → Act → World → Prop} {base : Nat} {v u : Value} {zs new : List Int}
    (hgd : o.guard = none) (s x : Operand) (ho : o.op = .call { callee := .builtin .append, args := #[s, x], argTypes := #[57, 57] })
    (hs : a.eval s = v) (hx : a.eval x = u) (hown : WIb w base v zs) (hu : Ints w u new) (hsz : zs.length + new.length ≤ 1099511627776) (hbase : base ≤ w.heap.size)
    (h : ∀ v' w', WIb w' base v' (zs ++ new) → w.grownBy w' v.ownBlock → wpList Try.prog ops Q rest (a.put o.dst v') w') : wpList Try.prog ops Q (o :: rest) a w := by
  obtain ⟨i0, hi0, hz0, hz1, hz2⟩ := info_parts infoInt
  obtain ⟨p, c, hv, hc⟩ := hu.form
  have hown' := hown
  unfold WIb at hown'
  rw [List.length_map] at hown'
  cases p with
  | none =>
    have hl : new = [] := by
      by_cases hn : new.length = 0
      · exact List.eq_nil_of_length_eq_zero hn
      · obtain ⟨_, _, e, _⟩ := hc 0 (by omega); cases e
    subst hl
    refine wpList_run hgd v w ?_ (h v w (by rw [List.append_nil]; exact hown) (World.grownBy.refl w _))
    have hr : (Builtin.append_ #[57, 57] o.type #[v, .slice none 0 c]).run Try.prog w = .ok v w := by
      rcases hown'.2 with ⟨hv, hn⟩ | ⟨g, cap, cur, hv, _, _, hnc, _⟩
      · rw [hv]; simp [Builtin.append_, run_underlying Try.underlying57, sizeOf, typeInfo, hi0, Builtin.lenOf, Builtin.firstCells]
      · rw [hv]; simp [Builtin.append_, run_underlying Try.underlying57, sizeOf, typeInfo, hi0, Builtin.lenOf, Builtin.firstCells, hnc, storeCells]
    unfold execOp
    simp only [ho, resolve, invoke, builtin, Sem.run_bind, Sem.run_pure, Result.andThen_ok, List.map_toArray, List.map_cons, List.map_nil, hs, hx, hv, List.length_nil, hr]
  | some ad =>
    by_cases hn0 : new.length = 0
    · have hl : new = [] := List.eq_nil_of_length_eq_zero hn0
      subst hl
      refine wpList_append_own_at w hgd s x 57 ho base 3 i0 (.int .i64 0) 1 8 Try.underlying57 hi0 hz0 hz1 hz2 rfl (by decide) v zs.length (zs.map (Value.int .i64)) hs hown' ad 0 c [] (by rw [hx, hv]; rfl) rfl (fun j u hu => by simp at hu) (by simp) (by unfold maxLen; simp at hsz; omega) (by simp at hsz; omega) hbase ?_
      intro v' w' h1 h2 _ _
      exact h v' w' (by unfold WIb; rw [List.append_nil, List.length_map]; rw [List.append_nil] at h1; exact h1) h2
    · obtain ⟨b0, off, e, _⟩ := hc 0 (by omega)
      injection e with e
      subst e
      refine wpList_append_own_at w hgd s x 57 ho base 3 i0 (.int .i64 0) 1 8 Try.underlying57 hi0 hz0 hz1 hz2 rfl (by decide) v zs.length (zs.map (Value.int .i64)) hs hown' ⟨b0, off, none⟩ new.length c (new.map (Value.int .i64)) (by rw [hx, hv]) (by rw [List.length_map, Nat.mul_one]) (fun j u hu => ?_) (by intro u hu; obtain ⟨y, _, rfl⟩ := List.mem_map.1 hu; rfl) (by unfold maxLen; omega) (by omega) hbase ?_
      · have hj : j < new.length := by have := (List.getElem?_eq_some_iff.1 hu).1; simpa using this
        obtain ⟨b', off', e, hcell⟩ := hc j hj
        injection e with e
        injection e with e1 e2
        subst e1 e2
        rw [List.getElem?_map, List.getElem?_eq_getElem hj] at hu
        rw [show (⟨b0, off, none⟩ : Addr).add j = ⟨b0, off + j, none⟩ by unfold Addr.add; split <;> simp_all, hcell, List.getD_eq_getElem?_getD, List.getElem?_eq_getElem hj]
        exact hu
      · intro v' w' h1 h2 _ _
        exact h v' w' (by unfold WIb; rw [List.length_map, List.length_append, List.map_append]; exact h1) h2
/-- append of one slice of ints to slices of ints of the call's own. -/
theorem wpList_append_ii {ops : Array Oper} {rest : List Oper} {o : Oper} {a : Act} {w : World} {Q : Exit → Act → World → Prop} {base : Nat} {v u : Value} {css : List (List Int)} {cs : List Int}
    (hgd : o.guard = none) (s x : Operand) (ho : o.op = .call { callee := .builtin .append, args := #[s, x], argTypes := #[34, 34] })
    (hs : a.eval s = v) (X c : Nat) (hx : a.eval x = .slice (some ⟨X, 0, none⟩) 1 c) (hXc : w.cell? ⟨X, 0, none⟩ = some u) (hu1 : u.oneCell' = true) (hown : WCsB w base v css) (hu : WIb w base u cs) (hsz : css.length ≤ 1048576) (hbase : base ≤ w.heap.size)
    (h : ∀ v' w', WCsB w' base v' (css ++ [cs]) → Below base w w' → wpList Try.prog ops Q rest (a.put o.dst v') w') : wpList Try.prog ops Q (o :: rest) a w := by
  obtain ⟨i0, hi0, hz0, hz1, hz2⟩ := info_parts infoInts
  obtain ⟨us, h1, h2, h3⟩ := hown
  have hb : ∀ k, v.ownBlock = some k → base ≤ k ∧ k < w.heap.size := fun k hk => World.ownsRow.lt h2 k hk
  refine wpList_append_own_at w hgd s x 34 ho base 57 i0 (.slice none 0 0) 1 24 Try.underlying34 hi0 hz0 hz1 hz2 rfl (by decide) v us.length us hs h2 ⟨X, 0, none⟩ 1 c [u] hx rfl (fun j y hy => ?_) (by simpa using hu1) (by unfold maxLen; omega) (by omega) hbase ?_
  · have hj : j = 0 := by have := (List.getElem?_eq_some_iff.1 hy).1; simp at this; exact this
    subst hj
    rw [show y = u by simpa using hy.symm]
    exact hXc
  · intro v' w' k1 k2 _ _
    have hbl : Below base w w' := ⟨k2.os, k2.tape, k2.output, k2.size, fun k hk => k2.block k (by omega) (fun e => by have := (hb k e.symm).1; omega)⟩
    have hkeep : ∀ x zs, WIb w base x zs → WIb w' base x zs := fun x zs hx => by
      refine ⟨hx.1, ?_⟩
      rcases hx.2 with h1 | ⟨g, cap, cur, hv, hb', hg, r⟩
      · exact .inl h1
      · refine .inr ⟨g, cap, cur, hv, hb', ?_, r⟩
        rw [k2.block g (Array.getElem?_eq_some_iff.1 hg).1 (fun e => ?_)]
        · exact hg
        · rcases h2.2 with ⟨hv2, _⟩ | ⟨g2, cap2, cur2, hv2, _, hg2, _⟩
          · rw [hv2] at e; cases e
          · rw [hv2] at e
            injection e with e
            change g = g2 at e
            subst e
            rw [hg] at hg2
            injection hg2 with hg2
            injection hg2 with _ hT _
            exact absurd hT (by decide)
    refine h v' w' ⟨us ++ [u], by rw [List.length_append, List.length_append, h1]; rfl, by rw [List.length_append]; exact k1, fun i hi => ?_⟩ hbl
    rw [List.length_append, List.length_singleton] at hi
    by_cases e : i < css.length
    · rw [List.getD_eq_getElem?_getD, List.getElem?_append_left (by omega), List.getD_eq_getElem?_getD, List.getElem?_append_left e, ← List.getD_eq_getElem?_getD, ← List.getD_eq_getElem?_getD]
      exact hkeep _ _ (h3 i e)
    · have e2 : i = css.length := by omega
      subst e2
      rw [List.getD_eq_getElem?_getD, List.getElem?_append_right (by omega), List.getD_eq_getElem?_getD, List.getElem?_append_right (by omega), h1]
      simp only [Nat.sub_self, List.getElem?_cons_zero, Option.getD_some]
      exact hkeep _ _ hu
theorem WIb.grow {w w' : World} {base : Nat} {v : Value} {zs : List Int} (h : WIb w base v zs) (hb : Below w.heap.size w w') : WIb w' base v zs := row_keep h (Chg.of_below (fun _ => False) hb) (fun _ _ _ hk => hk.elim)
theorem WCsB.grow {w w' : World} {base : Nat} {v : Value} {css : List (List Int)} (h : WCsB w base v css) (hb : Below w.heap.size w w') : WCsB w' base v css := h.keep (Chg.of_below (fun _ => False) hb) (fun _ _ => id)
theorem WCsB.form {w : World} {base : Nat} {v : Value} {css : List (List Int)} (h : WCsB w base v css) : ∃ p c, v = .slice p css.length c := by
  obtain ⟨us, h1, h2, _⟩ := h
  rcases h2.2 with ⟨hv, hn⟩ | ⟨g, c, _, hv, _⟩
  · exact ⟨none, 0, by rw [hv, ← h1, hn]⟩
  · exact ⟨_, c, by rw [hv, h1]⟩
theorem WIb.form {w : World} {base : Nat} {v : Value} {zs : List Int} (h : WIb w base v zs) : ∃ p c, v = .slice p zs.length c := by
  rcases h.2 with ⟨hv, hn⟩ | ⟨g, c, _, hv, _⟩
  · rw [List.length_map] at hn; exact ⟨none, 0, by rw [hv, hn]⟩
  · rw [List.length_map] at hv; exact ⟨_, c, hv⟩
theorem WIb.low {w : World} {B base : Nat} {v : Value} {zs : List Int} (h : WIb w base v zs) (hB : B ≤ base) : WIb w B v zs := row_base h hB
set_option maxRecDepth 100000 in
set_option maxHeartbeats 1600000 in
theorem ownedW {w : World} (cv : Value) (css : List (List Int)) (hcs : Rss w cv css) (hcl : css.length ≤ 1048576) (hcm : ∀ i, (css.getD i []).length ≤ 1048576) :
    Calls Try.prog 29 #[cv] w fun e w' => ∃ v, e = .returned v ∧ WCsB w' w.heap.size v css ∧ Below w.heap.size w w' := by
  obtain ⟨cp, ccap, rfl, hcell⟩ := hcs
  have HCC := Lib.hid hcell
  have HCM := Lib.hid hcm
  obtain ⟨N, hN⟩ : ∃ n, n = css.length := ⟨_, rfl⟩
  rw [← hN] at hcl ⊢
  have HN := Lib.hid hN
  have hW0 : WCsB (w.alloc (.cells #[] 57)) w.heap.size (.slice (some ⟨w.heap.size, 0, none⟩) 0 0) [] := ⟨[], rfl, ⟨rfl, .inr ⟨w.heap.size, 0, #[], rfl, Nat.le_refl _, heap_alloc_new w _, Nat.le_refl _, by unfold maxLen; omega, rfl, rfl⟩⟩, fun i hi => absurd hi (Nat.not_lt_zero _)⟩
  have hb0 : Below w.heap.size w (w.alloc (.cells #[] 57)) := (Below.refl _ _).alloc (Nat.le_refl _) _
  obtain ⟨W, hW⟩ : ∃ W, W = w.alloc (.cells #[] 57) := ⟨_, rfl⟩
  rw [← hW] at hW0 hb0
  have HO := Lib.hid hW0
  have HB := Lib.hid hb0
  have HW := Lib.hid hW
  clear hcell hcm hN hW0 hb0 hW
  go_enter Try.func29, Try.ntmps29
  go_wp2_with fail
  rw [← HW.out]
  go_loopw [3, 4] (fun v vi wr => ∃ i : Nat, i ≤ N ∧ vi = .int .i64 (i : Nat) ∧ WCsB wr w.heap.size v (css.take i) ∧ Below w.heap.size w wr) (fun _ vi _ => (N - intOf vi).toNat)
  case atStart => exact ⟨0, by omega, rfl, HO.out, HB.out⟩
  case round =>
    obtain ⟨i, hi, rfl, ho, hb⟩ := hrel
    have HO2 := Lib.hid ho
    have HB2 := Lib.hid hb
    by_cases hlt : i < N
    · obtain ⟨sb, so, u, hp, hx, hu⟩ := HCC.out i (by rw [← HN.out]; exact hlt)
      subst hp
      have hxm := HCM.out i
      have htk := take_succ_getD css i [] (by rw [← HN.out]; exact hlt)
      obtain ⟨cs, hcs⟩ : ∃ cs, cs = css.getD i [] := ⟨_, rfl⟩
      rw [← hcs] at hu hxm htk
      obtain ⟨q, qc, rfl, _⟩ := hu.form
      have hb1 : Below wr.heap.size wr (wr.alloc (.cells #[] 3)) := (Below.refl _ _).alloc (Nat.le_refl _) _
      have hxw : (wr.alloc (.cells #[] 3)).cell? ⟨sb, so + i, none⟩ = some (.slice q cs.length qc) := (hb1.cell (by have := hb.size; have := block_lt_of_cell hx; show sb < _; have : sb < w.heap.size := block_lt_of_cell hx; omega)).trans ((hb.cell (block_lt_of_cell hx)).trans hx)
      have hui : Ints (wr.alloc (.cells #[] 3)) (.slice q cs.length qc) cs := (hu.below hb).below hb1
      have hwi : WIb (wr.alloc (.cells #[] 3)) wr.heap.size (.slice (some ⟨wr.heap.size, 0, none⟩) 0 0) [] := ⟨rfl, .inr ⟨wr.heap.size, 0, #[], rfl, Nat.le_refl _, heap_alloc_new wr _, Nat.le_refl _, by unfold maxLen; omega, rfl, rfl⟩⟩
      have HUI := Lib.hid hui
      have HWI := Lib.hid hwi
      have HTK := Lib.hid htk
      have HB1 := Lib.hid hb1
      have HCS := Lib.hid hcs
      obtain ⟨L, hL⟩ : ∃ L, L = cs.length := ⟨_, rfl⟩
      rw [← hL] at hxw HUI
      have HL := Lib.hid hL
      have hsz : ([] : List Int).length + cs.length ≤ 1099511627776 := by simp; omega
      have HSZ := Lib.hid hsz
      clear ho hb hx hu hcs hui hwi htk hb1 hL hsz hxm
      go_wp2_with (with_reducible refine wpList_append_ints (o := ⟨some 18, _, _, _, _, _⟩) rfl _ _ rfl ?e1 ?e2 HWI.out HUI.out HSZ.out HB1.out.size ?_)
      case e1 => rfl
      case e2 => rfl
      intro v5 w5 ho5 hg5
      have hb5 : Below wr.heap.size wr w5 := HB1.out.grown hg5 HB1.out.size (fun k hk => by simp [Value.ownBlock] at hk; omega)
      obtain ⟨p5, c5, rfl⟩ := ho5.form
      rw [← HL.out] at ho5 ⊢
      have hout : WCsB (w5.alloc (.cells #[.slice p5 L c5] 57)) w.heap.size _ (css.take i) := (HO2.out.grow hb5).grow ((Below.refl _ _).alloc (Nat.le_refl _) (.cells #[.slice p5 L c5] 57))
      have hin : WIb (w5.alloc (.cells #[.slice p5 L c5] 57)) w.heap.size (.slice p5 L c5) cs := (ho5.low HB2.out.size).grow ((Below.refl _ _).alloc (Nat.le_refl _) _)
      have HOUT := Lib.hid hout
      have HIN := Lib.hid hin
      have HB5 := Lib.hid (HB2.out.trans (hb5.mono HB2.out.size))
      have htl : (css.take i).length ≤ 1048576 := by rw [List.length_take]; omega
      have HTL := Lib.hid htl
      have hz5 : w.heap.size ≤ (w5.alloc (.cells #[.slice p5 L c5] 57)).heap.size := by have := HB5.out.size; simp; omega
      clear ho5 hg5 hb5 hout hin htl hxw HUI HWI
      go_wp2_with (with_reducible refine wpList_append_ii (o := ⟨some 20, _, _, _, _, _⟩) (u := .slice p5 L c5) rfl _ _ rfl ?f1 w5.heap.size 1 ?f2 ?f3 rfl HOUT.out HIN.out HTL.out hz5 ?_)
      case f1 => rfl
      case f2 => rfl
      case f3 => simp
      intro v6 w6 ho6 hb6
      rw [← HTK.out] at ho6
      have R := Lib.hid (And.intro ho6 ((HB5.out.alloc HB5.out.size (.cells #[.slice p5 L c5] 57)).trans hb6))
      clear ho6 hb6
      go_wp2_with fail
      exact ⟨⟨i + 1, by omega, rfl, R.out⟩, by simp [intOf]; omega⟩
    · have hie : i = N := by omega
      rw [hie, HN.out, List.take_length] at ho
      have R := Lib.hid (And.intro ho hb)
      clear ho hb hie HO2 HB2
      go_wp2_with fail
      go_ret
      exact ⟨_, rfl, R.out⟩
end Go.Proofs.Ytennhmnmoamleaa
