/- A region that draws its order, whose last operation waits for all others: loads may be taken first where their cells stand till then; the last operation may write them. No program in sight. -/
import Derived.OrdersHeld
import Derived.RegionTactic
import Derived.Test.YtamaefnlicloaaaDoorLib
namespace Go.Proofs.YtamaefnlicloaaaDoor
section
variable {P : Program} {ops : Array Oper} {Q : Exit → Act → World → Prop} {md : Region.Mode} {S : World → Prop} {n : Nat}
/-- Whatever order is picked, and S holds behind every operation below n. -/
def wpAnyU (P : Program) (md : Region.Mode) (ops : Array Oper) (n : Nat) (Q : Exit → Act → World → Prop) (S : World → Prop) : Nat → Array Bool → Act → World → Prop
  | 0, listed, a, w => wpAny P md ops Q 0 listed a w
  | fuel + 1, listed, a, w => HeadInv md ops n listed → (Region.ready md ops listed = [] → Q .normal a w) ∧
      ∀ i ∈ Region.ready md ops listed, if i < n then wpOp P ops Q i (fun a' w' => S w' ∧ wpAnyU P md ops n Q S fuel (listed.setIfInBounds i true) a' w') a w else wpOp P ops Q i (wpAny P md ops Q fuel (listed.setIfInBounds i true)) a w
theorem wpAny_of_U : ∀ (fuel : Nat) (listed : Array Bool) (a : Act) (w : World), HeadInv md ops n listed → wpAnyU P md ops n Q S fuel listed a w → wpAny P md ops Q fuel listed a w
  | 0, _, _, _, _, h => h
  | fuel + 1, listed, a, w, inv, h => ⟨(h inv).1, fun i hi => by
      have h1 := (h inv).2 i hi
      by_cases hin : i < n
      · rw [if_pos hin] at h1
        exact wpOp_mono (fun a' w' h' => wpAny_of_U fuel _ a' w' (inv.set hi hin) h'.2) h1
      · rw [if_neg hin] at h1
        exact h1⟩
theorem wpAnyU_first {i : Nat} {oi : Oper} {v : Value} (hi : ops[i]? = some oi) (hin : i < n) (hs : Region.sinkB md ops n = true) (hc : Region.chainB md ops n = true) (hn : n < ops.size)
    (hsel : ∀ (j : Nat) (o : Oper) cs b, ops[j]? = some o → o.op ≠ .select cs b)
    (hQ : ∀ c a w, Q (.panic c) (a.put oi.dst v) w → Q (.panic c) a w) :
    ∀ (fuel : Nat) (listed : Array Bool) (a : Act) (w : World),
      (∀ j oj, ops[j]? = some oj → j ≠ i → listed.getD j true = false → (∀ e ∈ oj.after, Region.binds md e = true → e.on ≠ i) → oi.apart ops oj = true) →
      i ∈ Region.ready md ops listed → YieldsIf P ops S oi v a → S w →
      wpAnyU P md ops n Q S fuel (listed.setIfInBounds i true) (a.put oi.dst v) w → wpAnyU P md ops n Q S (fuel + 1) listed a w := by
  intro fuel
  induction fuel with
  | zero =>
    intro listed a w _ hr hy hS H inv
    refine ⟨fun h => (by rw [h] at hr; cases hr), fun j hj => ?_⟩
    by_cases hji : j = i
    · subst hji; rw [if_pos hin]; exact hy.wpOp hi hS ⟨hS, H⟩
    · have := ready_mono hj hji
      rw [H.1] at this
      cases this
  | succ fuel ih =>
    intro listed a w hfree hr hy hS H inv
    refine ⟨fun h => (by rw [h] at hr; cases hr), fun j hj => ?_⟩
    have hun := (mem_ready.1 hr).1
    have hjn : j < n := by
      rcases Nat.lt_or_ge j n with h | h
      · exact h
      · exact absurd hj (tail_waits hs hc hn inv _ i rfl hin hun j h)
    rw [if_pos hjn]
    by_cases hji : j = i
    · subst hji; exact hy.wpOp hi hS ⟨hS, H⟩
    · have h1 := (H (inv.set hr hin)).2 j (ready_mono hj hji)
      rw [if_pos hjn] at h1
      obtain ⟨hjun, oj, hoj, hall⟩ := mem_ready.1 hj
      have hnot : ∀ e ∈ oj.after, Region.binds md e = true → e.on ≠ i := fun e he hb heq => by
        have h1 := hall e he hb
        rw [heq, getD_both hun] at h1
        cases h1
      have h2 := wpOp_putIf hoj (hfree j oj hoj hji hjun hnot) (fun cs b => hsel i oi cs b hi) (fun cs b => hsel j oj cs b hoj) hQ hy h1
      have hfree' : ∀ k ok, ops[k]? = some ok → k ≠ i → (listed.setIfInBounds j true).getD k true = false →
          (∀ e ∈ ok.after, Region.binds md e = true → e.on ≠ i) → oi.apart ops ok = true := fun k ok hk hki hun hno => by
        refine hfree k ok hk hki ?_ hno
        by_cases hjk : j = k
        · subst hjk; exact hjun
        · rw [getD_set_ne true hjk] at hun; exact hun
      refine wpOp_mono (fun a' w' h3 => ⟨h3.2.1, ih (listed.setIfInBounds j true) a' w' hfree' (ready_mono hr (Ne.symm hji)) h3.1 h3.2.1 ?_⟩) h2
      rw [Array.setIfInBounds_comm _ _ hji]
      exact h3.2.2
/-- What the region must be: no select; its last operation waits for all others. -/
def lastB (md : Region.Mode) (ops : Array Oper) (n : Nat) : Bool := Region.noSelect ops && decide (n < ops.size) && Region.sinkB md ops n && Region.chainB md ops n
theorem wpAnyU_take (i : Nat) {oi : Oper} {v : Value} {fuel : Nat} {listed : Array Bool} {a : Act} {w : World} (hi : ops[i]? = some oi) (hB : lastB md ops n = true)
    (hf : (decide (i < n) && Region.free md ops listed i && (Region.ready md ops listed).contains i) = true)
    (hQ : ∀ c a w, Q (.panic c) (a.put oi.dst v) w → Q (.panic c) a w) (hy : YieldsIf P ops S oi v a) (hS : S w)
    (h : wpAnyU P md ops n Q S fuel (listed.setIfInBounds i true) (a.put oi.dst v) w) : wpAnyU P md ops n Q S (fuel + 1) listed a w := by
  simp only [lastB, Bool.and_eq_true, decide_eq_true_eq] at hB hf
  exact wpAnyU_first hi hf.1.1 hB.1.2 hB.2 hB.1.1.2 (Region.noSelect_spec hB.1.1.1) hQ fuel listed a w (Region.free_spec hi hf.1.2) (by simpa using hf.2) hy hS h
theorem get_drop {l : List Oper} {i : Nat} {o : Oper} {r : List Oper} (h : l.drop i = o :: r) : l.toArray[i]? = some o := by
  have h1 : (l.drop i)[0]? = some o := by rw [h]; rfl
  rw [List.getElem?_drop, Nat.add_zero] at h1
  simpa using h1
/-- Number i taken first, its text read off the list. -/
theorem takeU (i : Nat) {l : List Oper} {oi : Oper} {r : List Oper} {v : Value} {fuel : Nat} {listed : Array Bool} {a : Act} {w : World} (hi : l.drop i = oi :: r) (hB : lastB md l.toArray n = true)
    (hf : (decide (i < n) && Region.free md l.toArray listed i && (Region.ready md l.toArray listed).contains i) = true)
    (hQ : ∀ c a w, Q (.panic c) (a.put oi.dst v) w → Q (.panic c) a w) (hg : Region.wanted oi (yielded l.toArray a.tmps) = true) (hy : ∀ w, S w → (execOp a.eval oi).run P w = .ok (.value v) w) (hS : S w)
    (h : wpAnyU P md l.toArray n Q S fuel (listed.setIfInBounds i true) (a.put oi.dst v) w) : wpAnyU P md l.toArray n Q S (fuel + 1) listed a w :=
  wpAnyU_take i (get_drop hi) hB hf hQ (.inl ⟨hg, hy⟩) hS h
/-- One that may come up, below n, by its own law. -/
theorem someU (i : Nat) {l : List Oper} {o : Oper} {r : List Oper} {fuel : Nat} {listed : Array Bool} {a : Act} {w : World} (hi : l.drop i = o :: r) (hin : decide (i < n) = true)
    (h : if Region.wanted o (yielded l.toArray a.tmps) = true then Oper.wp P o a w (fun a' w' => S w' ∧ wpAnyU P md l.toArray n Q S fuel (listed.setIfInBounds i true) a' w') Q else (S w ∧ wpAnyU P md l.toArray n Q S fuel (listed.setIfInBounds i true) (a.put o.dst undef) w)) :
    if i < n then wpOp P l.toArray Q i (fun a' w' => S w' ∧ wpAnyU P md l.toArray n Q S fuel (listed.setIfInBounds i true) a' w') a w else wpOp P l.toArray Q i (wpAny P md l.toArray Q fuel (listed.setIfInBounds i true)) a w := by
  rw [if_pos (of_decide_eq_true hin)]
  unfold wpOp
  rw [get_drop hi]
  show if Region.wanted o (yielded l.toArray a.tmps) = true then _ else _
  split
  · rename_i hw; rw [if_pos hw] at h; exact .inl h
  · rename_i hw; rw [if_neg hw] at h; exact h
/-- One whose guard says no. -/
theorem skipU (i : Nat) {l : List Oper} {oi : Oper} {r : List Oper} {fuel : Nat} {listed : Array Bool} {a : Act} {w : World} (hi : l.drop i = oi :: r) (hB : lastB md l.toArray n = true)
    (hf : (decide (i < n) && Region.free md l.toArray listed i && (Region.ready md l.toArray listed).contains i) = true)
    (hQ : ∀ c a w, Q (.panic c) (a.put oi.dst undef) w → Q (.panic c) a w) (hg : Region.wanted oi (yielded l.toArray a.tmps) = false) (hS : S w)
    (h : wpAnyU P md l.toArray n Q S fuel (listed.setIfInBounds i true) (a.put oi.dst undef) w) : wpAnyU P md l.toArray n Q S (fuel + 1) listed a w :=
  wpAnyU_take i (get_drop hi) hB hf hQ (.inr ⟨hg, rfl⟩) hS h
/-- A call, below n. -/
theorem callU (i : Nat) {l : List Oper} {o : Oper} {r : List Oper} {fuel : Nat} {listed : Array Bool} {a : Act} {w : World} (hi : l.drop i = o :: r) (hin : decide (i < n) = true) (hw : Region.wanted o (yielded l.toArray a.tmps) = true)
    (f : FuncId) (xs : Array Operand) (ats : Array TypeId) (ho : o.op = .call { callee := .value (.func f), args := xs, argTypes := ats }) (args : Array Value) (hargs : xs.map a.eval = args) (hent : ∀ args w, (callFunc f args).run P w = .ok (.enter f args) w)
    (R : Value → World → Prop) (hc : Calls P f args w fun e w' => ∃ v, e = .returned v ∧ R v w')
    (h : ∀ v w', R v w' → S w' ∧ wpAnyU P md l.toArray n Q S fuel (listed.setIfInBounds i true) (a.put o.dst v) w') :
    if i < n then wpOp P l.toArray Q i (fun a' w' => S w' ∧ wpAnyU P md l.toArray n Q S fuel (listed.setIfInBounds i true) a' w') a w else wpOp P l.toArray Q i (wpAny P md l.toArray Q fuel (listed.setIfInBounds i true)) a w := by
  refine someU i hi hin ?_
  rw [if_pos hw]
  unfold Oper.wp
  have e : (execOp a.eval o).run P w = .ok (.enter f args) w := by
    have e : execOp a.eval o = callFunc f (#[] ++ xs.map a.eval ++ #[]) := by
      obtain ⟨dst, op, ty, pos, after, guard⟩ := o
      simp only at ho
      subst ho
      rfl
    rw [e, hargs]
    simpa using hent args w
  rw [e]
  exact hc.mono fun e' w' ⟨v, he, hR⟩ => by subst he; exact h v w' hR
/-- The last, if it is quiet. -/
theorem endU (i : Nat) {l : List Oper} {o : Oper} {r : List Oper} {v : Value} {fuel : Nat} {listed : Array Bool} {a : Act} {w : World} (hi : l.drop i = o :: r) (hin : decide (i < n) = false) (hr : Region.ready md l.toArray (listed.setIfInBounds i true) = [])
    (hw : Region.wanted o (yielded l.toArray a.tmps) = true) (hrun : (execOp a.eval o).run P w = .ok (.value v) w) (h : Q .normal (a.put o.dst v) w) :
    if i < n then wpOp P l.toArray Q i (fun a' w' => S w' ∧ wpAnyU P md l.toArray n Q S fuel (listed.setIfInBounds i true) a' w') a w else wpOp P l.toArray Q i (wpAny P md l.toArray Q fuel (listed.setIfInBounds i true)) a w := by
  rw [if_neg (of_decide_eq_false hin)]
  unfold wpOp
  rw [get_drop hi]
  show if Region.wanted o (yielded l.toArray a.tmps) = true then _ else _
  rw [if_pos hw]
  refine .inl ?_
  unfold Oper.wp
  rw [hrun]
  exact wpAny_done hr h fuel
/-- The last. -/
theorem lastU (i : Nat) {l : List Oper} {o : Oper} {r : List Oper} {fuel : Nat} {listed : Array Bool} {a : Act} {w : World} (hi : l.drop i = o :: r) (hin : decide (i < n) = false) (hr : Region.ready md l.toArray (listed.setIfInBounds i true) = [])
    (h : if Region.wanted o (yielded l.toArray a.tmps) = true then Oper.wp P o a w (fun a' w' => Q .normal a' w') Q else Q .normal (a.put o.dst undef) w) :
    if i < n then wpOp P l.toArray Q i (fun a' w' => S w' ∧ wpAnyU P md l.toArray n Q S fuel (listed.setIfInBounds i true) a' w') a w else wpOp P l.toArray Q i (wpAny P md l.toArray Q fuel (listed.setIfInBounds i true)) a w := by
  rw [if_neg (of_decide_eq_false hin)]
  have hd : ∀ a' w', Q .normal a' w' → wpAny P md l.toArray Q fuel (listed.setIfInBounds i true) a' w' := fun a' w' hq => wpAny_done hr hq fuel
  unfold wpOp
  rw [get_drop hi]
  show if Region.wanted o (yielded l.toArray a.tmps) = true then _ else _
  split
  · rename_i hw; rw [if_pos hw] at h; exact .inl (Oper.wp_mono hd h)
  · rename_i hw; rw [if_neg hw] at h; exact hd _ _ h
theorem wpAnyU_all (rs : List Nat) {fuel : Nat} {listed : Array Bool} {a : Act} {w : World} (hr : Region.ready md ops listed = rs) (hne : rs ≠ [])
    (h : ∀ i ∈ rs, if i < n then wpOp P ops Q i (fun a' w' => S w' ∧ wpAnyU P md ops n Q S fuel (listed.setIfInBounds i true) a' w') a w else wpOp P ops Q i (wpAny P md ops Q fuel (listed.setIfInBounds i true)) a w) : wpAnyU P md ops n Q S (fuel + 1) listed a w :=
  fun _ => ⟨fun h0 => absurd (hr ▸ h0) hne, hr ▸ h⟩
theorem oneU (i : Nat) {fuel : Nat} {listed : Array Bool} {a : Act} {w : World} (hr : Region.ready md ops listed = [i])
    (h : if i < n then wpOp P ops Q i (fun a' w' => S w' ∧ wpAnyU P md ops n Q S fuel (listed.setIfInBounds i true) a' w') a w else wpOp P ops Q i (wpAny P md ops Q fuel (listed.setIfInBounds i true)) a w) : wpAnyU P md ops n Q S (fuel + 1) listed a w :=
  wpAnyU_all [i] hr (by simp) (fun j hj => by
    have e : j = i := by simpa using hj
    subst e
    exact h)
theorem twoU (i k : Nat) {fuel : Nat} {listed : Array Bool} {a : Act} {w : World} (hr : Region.ready md ops listed = [i, k])
    (h : if i < n then wpOp P ops Q i (fun a' w' => S w' ∧ wpAnyU P md ops n Q S fuel (listed.setIfInBounds i true) a' w') a w else wpOp P ops Q i (wpAny P md ops Q fuel (listed.setIfInBounds i true)) a w)
    (h2 : if k < n then wpOp P ops Q k (fun a' w' => S w' ∧ wpAnyU P md ops n Q S fuel (listed.setIfInBounds k true) a' w') a w else wpOp P ops Q k (wpAny P md ops Q fuel (listed.setIfInBounds k true)) a w) : wpAnyU P md ops n Q S (fuel + 1) listed a w :=
  wpAnyU_all [i, k] hr (by simp) (fun j hj => by
    rcases List.mem_cons.1 hj with e | hj
    · subst e; exact h
    · have e : j = k := by simpa using hj
      subst e; exact h2)
/-- One that may come up, by its own law. -/
theorem wpOp_law {i : Nat} {o : Oper} {K : Act → World → Prop} {a : Act} {w : World} (ho : ops[i]? = some o)
    (h : if Region.wanted o (yielded ops a.tmps) = true then Oper.wp P o a w K Q else K (a.put o.dst undef) w) : wpOp P ops Q i K a w := by
  unfold wpOp
  rw [ho]
  show if Region.wanted o (yielded ops a.tmps) = true then _ else _
  split
  · rename_i hw; rw [if_pos hw] at h; exact .inl h
  · rename_i hw; rw [if_neg hw] at h; exact h
theorem wp_region_U {id : Nat} {a : Act} {w : World} {l : List Oper} (n : Nat) (S : World → Prop) (hm : P.follows .mixedOrders = true)
    (h : wpAnyU P .any l.toArray n Q S l.length (Array.replicate l.length false) a w.drew) : (Code.region id l.toArray true).wp P Q a w := by
  refine wp_region_any hm ?_
  have inv0 : HeadInv .any l.toArray n (Array.replicate l.toArray.size false) :=
    ⟨by simp, fun j oj _ hl => (by rw [getD_replicate_false] at hl; cases hl), fun t _ ht => getD_in (by simpa using ht) (getD_replicate_false _ _)⟩
  exact wpAny_of_U _ _ _ _ inv0 (by simpa using h)
end
end Go.Proofs.YtamaefnlicloaaaDoor
