/- The document's disk: Size, Write. -/
import Derived.Test.YtilpbjcbffbjeaaGreatDoorDRef7
import Derived.Test.YtilpbjcbffbjeaaGreatDoorPkA
namespace Go.Proofs.YtilpbjcbffbjeaaGreatDoor
set_option linter.unusedVariables false
set_option maxRecDepth 100000
open Go.RowKit
set_option maxHeartbeats 400000 in
theorem rsizeYes {B : Nat} {w0 w : World} {b g cap : Nat} {D : Dk} (h : IsR B w0 w b g cap D) (hok : DOk D) (f : Nat) (hf : f < D.l.length) :
    Calls Tryz.prog 109 #[.pointer (some ⟨b, 0, none⟩), .int .i64 (f : Nat)] w fun e w' => e = .returned (.int .i64 ((rd (D.l.getD f Fl.zero)).size : Nat)) ∧ Below w.heap.size w w' := by
  have HI := Lib.hid (risW h (f : Nat))
  have e : D.out (f : Nat) = false := by unfold Dk.out; rw [decide_eq_false_iff_not]; omega
  rw [e] at HI
  obtain ⟨v0, c00, hrf⟩ := h.cells.1
  have hfm := hrf.form
  subst hfm
  have h2 := hrf.len
  have h3 := hrf.capm
  unfold maxLen at h3
  have c1 := hrf.safe f hf
  obtain ⟨u, c2, hws⟩ := hrf.ws f hf
  obtain ⟨x, hx⟩ : ∃ x, x = D.l.getD f Fl.zero := ⟨_, rfl⟩
  have h7 := hok.size f hf
  have h8 := hok.many f hf
  rw [← hx] at c1 hws h7 h8 ⊢
  have HW := Lib.hid (rwholeW x u w hws (by omega) (by omega))
  clear h hrf hws hx hok h8 e
  have i1 : (0 : Int) ≤ (f : Int) := by omega
  have i2 : (f : Int) < (D.l.length : Int) := by omega
  go_enter Tryz.func109, Tryz.ntmps109
  go_wp2_with fail
  refine HI.out.mono ?_
  rintro e w1 ⟨rfl, rfl⟩
  go_wp2_with fail
  refine HW.out.mono ?_
  rintro e w1 ⟨rfl, hb⟩
  go_wp2_with fail
  go_ret
  exact ⟨rfl, hb⟩
set_option maxHeartbeats 400000 in
theorem rsizeNo {B : Nat} {w0 w : World} {b g cap : Nat} {D : Dk} (h : IsR B w0 w b g cap D) (f : Int) (hf : f < 0 ∨ D.l.length ≤ f) :
    Calls Tryz.prog 109 #[.pointer (some ⟨b, 0, none⟩), .int .i64 f] w fun e w' => e = .returned (.int .i64 (-1)) ∧ w = w' := by
  have HI := Lib.hid (risW h f)
  have e : D.out f = true := by unfold Dk.out; exact decide_eq_true hf
  rw [e] at HI
  clear h e hf
  go_enter Tryz.func109, Tryz.ntmps109
  go_wp2_with fail
  refine HI.out.mono ?_
  rintro e w1 ⟨rfl, rfl⟩
  go_wp2_with fail
  go_ret
  exact ⟨rfl, rfl⟩
/-! ### strings that a region makes -/
section
variable {ops : Array Oper} {o : Oper} {a : Act} {w : World} {K : Act → World → Prop} {Q : Exit → Act → World → Prop} {E : Prop}
theorem step_empty_s (hgd : o.guard = none) (ho : o.op = .buildSlice 28 0 #[])
    (h : ∀ X w', OwnsS w' w.heap.size (.slice (some ⟨X, 0, none⟩) 0 0) [] → Below w.heap.size w w' → K (a.put o.dst (.slice (some ⟨X, 0, none⟩) 0 0)) w') : if Region.wanted o (yielded ops a.tmps) = true then Oper.wp Tryz.prog o a w K Q else E := by
  refine step_run hgd (.slice (some ⟨w.heap.size, 0, none⟩) 0 0) (w.alloc (.cells #[] 9)) ?_ (h _ _ (OwnsS.empty w) ((Below.refl _ _).alloc (Nat.le_refl _) _))
  unfold execOp
  rw [ho]
  kernel_rfl
theorem step_one_s (hgd : o.guard = none) (x : Operand) (ho : o.op = .buildSlice 28 1 #[(0, x)]) (s : ByteArray) (hx : a.eval x = .string s)
    (h : ∀ X w', w'.cell? ⟨X, 0, none⟩ = some (.string s) → w.heap.size ≤ X → X < w'.heap.size → Below w.heap.size w w' → K (a.put o.dst (.slice (some ⟨X, 0, none⟩) 1 1)) w') : if Region.wanted o (yielded ops a.tmps) = true then Oper.wp Tryz.prog o a w K Q else E := by
  refine step_run hgd (.slice (some ⟨w.heap.size, 0, none⟩) 1 1) (w.alloc (.cells #[.string s] 9)) ?_ (h _ _ (by simp) (Nat.le_refl _) (by simp) ((Below.refl _ _).alloc (Nat.le_refl _) _))
  have hr : (Instr.buildSlice 28 1 #[(0, .string s)]).run Tryz.prog w = .ok (.slice (some ⟨w.heap.size, 0, none⟩) 1 1) (w.alloc (.cells #[.string s] 9)) := by kernel_rfl
  simp [execOp, ho, hx, hr, Result.andThen]
theorem step_append_ss {base : Nat} {v u : Value} {ss new : List ByteArray} (hgd : o.guard = none) (s x : Operand) (ho : o.op = .call { callee := .builtin .append, args := #[s, x], argTypes := #[28, 28] })
    (hs : a.eval s = v) (hx : a.eval x = u) (hown : OwnsS w base v ss) (hu : Strs w u new) (hz : u = .slice none 0 0 ∨ ∃ b off n c, u = .slice (some ⟨b, off, none⟩) n c) (hsz : ss.length + new.length ≤ 1099511627777) (hbase : base ≤ w.heap.size)
    (h : ∀ v' w', OwnsS w' base v' (ss ++ new) → w.grownBy w' v.ownBlock → K (a.put o.dst v') w') : if Region.wanted o (yielded ops a.tmps) = true then Oper.wp Tryz.prog o a w K Q else E := by
  obtain ⟨i0, hi0, hz0, hz1, hz2⟩ := info_parts infoStr
  obtain ⟨p, c, hv, hc⟩ := hu.form
  rcases hz with hz | ⟨b, off, n, cc, hz⟩
  · have hl : new = [] := by rw [hz] at hv; injection hv with _ h2 _; exact List.eq_nil_of_length_eq_zero h2.symm
    subst hl
    refine step_run hgd v w ?_ (h v w (by rw [List.append_nil]; exact hown) (World.grownBy.refl w _))
    have hr : (Builtin.append_ #[28, 28] o.type #[v, .slice none 0 0]).run Tryz.prog w = .ok v w := by
      rcases hown.2 with ⟨hv, hn⟩ | ⟨g, cap, cur, hv, _, _, hnc, _⟩
      · rw [hv]; simp [Builtin.append_, run_underlying Tryz.underlying28, sizeOf, typeInfo, hi0, Builtin.lenOf, Builtin.firstCells]
      · rw [hv]; simp [Builtin.append_, run_underlying Tryz.underlying28, sizeOf, typeInfo, hi0, Builtin.lenOf, Builtin.firstCells, hnc, storeCells]
    unfold execOp
    simp only [ho, resolve, invoke, builtin, Sem.run_bind, Sem.run_pure, Result.andThen_ok, List.map_toArray, List.map_cons, List.map_nil, hs, hx, hz, hr]
  · have hp : p = some ⟨b, off, none⟩ ∧ new.length = n ∧ c = cc := by rw [hz] at hv; injection hv with h1 h2 h3; exact ⟨h1.symm, h2.symm, h3.symm⟩
    obtain ⟨rfl, hn, rfl⟩ := hp
    obtain ⟨v', w', hrun, h2, h3, _, _⟩ := run_append_own_at (P := Tryz.prog) w base 28 o.type 9 i0 (.string ⟨#[]⟩) 1 16 Tryz.underlying28 hi0 hz0 hz1 hz2 rfl (by decide) v ss.length (ss.map Value.string) hown ⟨b, off, none⟩ n c (new.map Value.string) (by rw [List.length_map, hn]; omega) (fun j u hu => by
      have hj : j < new.length := by have := (List.getElem?_eq_some_iff.1 hu).1; simpa using this
      obtain ⟨b', off', e, hcell⟩ := hc j hj
      injection e with e
      injection e with e1 e2
      subst e1 e2
      rw [List.getElem?_map, List.getElem?_eq_getElem hj] at hu
      rw [show (⟨b, off, none⟩ : Addr).add j = ⟨b, off + j, none⟩ by unfold Addr.add; split <;> simp_all, hcell, List.getD_eq_getElem?_getD, List.getElem?_eq_getElem hj]
      exact hu) (by intro u hu; obtain ⟨y, _, rfl⟩ := List.mem_map.1 hu; rfl) (by unfold maxLen; omega) (by omega) hbase
    refine step_run hgd v' w' ?_ (h v' w' (by unfold OwnsS; rw [List.length_append, List.map_append, hn]; exact h2) h3)
    unfold execOp
    simp only [ho, resolve, invoke, builtin, Sem.run_bind, Sem.run_pure, Result.andThen_ok, List.map_toArray, List.map_cons, List.map_nil, hs, hx, hz, hrun]
end
end Go.Proofs.YtilpbjcbffbjeaaGreatDoor
