/- A region that draws its order: a head that is quiet in a class of worlds, and a tail that waits for all of it: one walk in the text's order serves every order. No program in sight.
   A region that draws its order, whose last operation waits for all others: loads may be taken first where their cells stand till then; the last operation may write them. No program in sight.
   Rows of numbers in memory, and the model's integer operations as operations on natural numbers. No function of the program in sight.
   A slice of bytes that the call itself made: what it holds, what append and string() make of it.
   Slices of strings that came in, the bytes of strings one behind another, and append of a string's bytes to bytes of the call's own. No function of the program in sight.
   Disks in plain terms: files, what is read, what choices leave, what each call does. No program in sight.
   Disks in memory: what may turn in a call, slices of strings and of ints that nobody writes, files, disks.
   A slice of bytes that the call made, told by its cells alone: it may lie in a block that a conversion of a string made. No function of the program in sight.
   copy of a string's bytes into bytes that the call made. No function of the program in sight.
   append of a string to loose bytes (the bytes of a []byte(s)). -/
import Derived.WalkKit
import Derived.Deep.QuietTactic
import Derived.BigQuiet
import Derived.StillTail
import Derived.OrdersHeld
import Derived.RegionTactic
import Derived.Deep.MidRow
import Derived.Laws.CopyOwn
import Derived.Lib.Hide
import Derived.Maps.AppendAt
import Derived.Laws.BytesArg
import Derived.Lib.AppendStr
import Derived.Test.YtilpbjcbffbjeaaGreatDoorProg
import Derived.ArgAppend
import Derived.Deep.AppendLies
import Derived.Lib.ConvBytes
import Derived.Lib.SmallJoins
import Derived.Lib.LazyBuf
import Derived.Lib.BufferWrite
namespace Go.Proofs.YtilpbjcbffbjeaaGreatDoor
/-- A call through a function value in a slot: taken ahead of any unfolding. -/
def callVal (v : Value) (args : Array Value) : Sem Next := do let d ← Deferred.ofValue v args; invoke d.target d.args
@[go_sem ↓] theorem execOp_call_tmp (a : Act) (dst : Option Tmp) (t : Tmp) (xs : Array Operand) (ats : Array TypeId) (ty : TypeId) (pos : String) (after : Array Edge) (guard : Option (Nat × Bool)) :
    execOp a.eval { dst, op := .call { callee := .value (.tmp t), args := xs, argTypes := ats }, type := ty, pos, after, guard } = callVal (a.eval (.tmp t)) (xs.map a.eval) := rfl
@[go_sem] theorem callVal_func (f : FuncId) (first cap args : Array Value) : callVal (.func (.func f) first cap) args = callFunc f (first ++ args ++ cap) := rfl

section
variable {P : Program} {ops : Array Oper} {md : Region.Mode} {C : World → Prop}

/-- Whatever order is picked, as long as the head lasts. -/
def anyC (P : Program) (md : Region.Mode) (ops : Array Oper) (C : World → Prop) (n : Nat) (L : Array Bool → Act → Prop) : Nat → Array Bool → Act → Prop
  | 0, listed, a => L listed a
  | f + 1, listed, a => Region.ready md ops listed ≠ [] ∧ ∀ i ∈ Region.ready md ops listed, i < n ∧ qOp P ops C i (anyC P md ops C n L f (listed.setIfInBounds i true)) a

theorem any_of_anyC {n g : Nat} {L : Array Bool → Act → Prop} {Q' : Exit → Act → World → Prop} (hL : ∀ listed a w, C w → L listed a → wpAny P md ops Q' g listed a w) :
    ∀ (f : Nat) (listed : Array Bool) (a : Act) (w : World), C w → anyC P md ops C n L f listed a → wpAny P md ops Q' (f + g) listed a w
  | 0, listed, a, w, hw, h => by rw [Nat.zero_add]; exact hL _ _ _ hw h
  | f + 1, listed, a, w, hw, h => by
    rw [show f + 1 + g = (f + g) + 1 by omega]
    exact ⟨fun h0 => absurd h0 h.1, fun i hi => wpOp_of_qOp hw (fun a' w' hw' h' => any_of_anyC hL f _ a' w' hw' h') (h.2 i hi).2⟩

theorem anyC_first {n i : Nat} {oi : Oper} {v : Value} {L : Array Bool → Act → Prop} (hi : ops[i]? = some oi) (hsel : ∀ (j : Nat) (o : Oper) cs b, ops[j]? = some o → o.op ≠ .select cs b)
    (hs : Region.sinkB md ops n = true) (hc : Region.chainB md ops n = true) (hn : n < ops.size) (hin : i < n)
    (hdone : ∀ listed a, L listed a → ∀ j ∈ Region.ready md ops listed, n ≤ j) :
    ∀ (f : Nat) (listed : Array Bool) (a : Act), HeadInv md ops n listed →
      (∀ j oj, ops[j]? = some oj → j ≠ i → listed.getD j true = false → (∀ e ∈ oj.after, Region.binds md e = true → e.on ≠ i) → oi.apart ops oj = true) →
      i ∈ Region.ready md ops listed → YieldsIn P ops C oi v a →
      anyC P md ops C n L f (listed.setIfInBounds i true) (a.put oi.dst v) → anyC P md ops C n L (f + 1) listed a := by
  intro f
  induction f with
  | zero =>
    intro listed a inv _ hr hy H
    have hun := (mem_ready.1 hr).1
    refine ⟨fun h => (by rw [h] at hr; cases hr), fun j hj => ?_⟩
    have hjn : j < n := by
      rcases Nat.lt_or_ge j n with h | h
      · exact h
      · exact absurd hj (tail_waits hs hc hn inv _ i rfl hin hun j h)
    refine ⟨hjn, ?_⟩
    by_cases hji : j = i
    · subst hji; exact hy.qOp hi H
    · have := hdone _ _ H j (ready_mono hj hji)
      omega
  | succ f ih =>
    intro listed a inv hfree hr hy H
    have hun := (mem_ready.1 hr).1
    refine ⟨fun h => (by rw [h] at hr; cases hr), fun j hj => ?_⟩
    have hjn : j < n := by
      rcases Nat.lt_or_ge j n with h | h
      · exact h
      · exact absurd hj (tail_waits hs hc hn inv _ i rfl hin hun j h)
    refine ⟨hjn, ?_⟩
    by_cases hji : j = i
    · subst hji; exact hy.qOp hi H
    · have h1 := (H.2 j (ready_mono hj hji)).2
      obtain ⟨hjun, oj, hoj, hall⟩ := mem_ready.1 hj
      have hnot : ∀ e ∈ oj.after, Region.binds md e = true → e.on ≠ i := fun e he hb heq => by
        have h1 := hall e he hb
        rw [heq, getD_both hun] at h1
        cases h1
      have h2 := qOp_put hoj (hfree j oj hoj hji hjun hnot) (fun cs b => hsel i oi cs b hi) (fun cs b => hsel j oj cs b hoj) hy h1
      have hfree' : ∀ k ok, ops[k]? = some ok → k ≠ i → (listed.setIfInBounds j true).getD k true = false →
          (∀ e ∈ ok.after, Region.binds md e = true → e.on ≠ i) → oi.apart ops ok = true := fun k ok hk hki hun hno => by
        refine hfree k ok hk hki ?_ hno
        by_cases hjk : j = k
        · subst hjk; exact hjun
        · rw [getD_set_ne true hjk] at hun; exact hun
      refine qOp_mono (fun a' h3 => ih (listed.setIfInBounds j true) a' (inv.set hj hjn) hfree' (ready_mono hr (Ne.symm hji)) h3.1 ?_) h2
      rw [Array.setIfInBounds_comm _ _ hji]
      exact h3.2

theorem anyC_lex {n g : Nat} {Lq : Act → Prop} (hsel : Region.noSelect ops = true) (hs : Region.sinkB md ops n = true) (hc : Region.chainB md ops n = true) (hn : n < ops.size) :
    ∀ (l : List Oper) (k : Nat) (listed : Array Bool) (a : Act), (∀ j, j < l.length → l[j]? = ops[k + j]?) → k + l.length = n → HeadInv md ops n listed →
    Region.lexHead md ops g l.length k listed = true → wpQuiet P ops C Lq l a →
    anyC P md ops C n (fun listed' a' => Region.seqB md ops g n listed' = true ∧ Lq a') l.length listed a
  | [], k, listed, a, _, hk, _, hB, h => by
    have : k = n := by simpa using hk
    subst this
    exact ⟨by simpa [Region.lexHead] using hB, h⟩
  | o :: l, k, listed, a, hl, hk, inv, hB, h => by
    have h0 : ops[k]? = some o := by simpa using (hl 0 (by simp)).symm
    simp only [List.length_cons, Region.lexHead, Bool.and_eq_true] at hB
    obtain ⟨⟨hr, hf⟩, hB'⟩ := hB
    have hkn : k < n := by simp only [List.length_cons] at hk; omega
    have hr' : k ∈ Region.ready md ops listed := by simpa using hr
    have hst : qOp P ops C k (wpQuiet P ops C Lq l) a := by unfold qOp; simp only [h0]; exact h
    obtain ⟨v, hy, hK⟩ := yieldsIn_of_qOp h0 hst
    exact anyC_first h0 (Region.noSelect_spec hsel) hs hc hn hkn (fun listed' a' hL => seqB_ready hL.1) l.length listed a inv (Region.free_spec h0 hf) hr' hy
      (anyC_lex hsel hs hc hn l (k + 1) _ _ (fun j hj => by have := hl (j + 1) (by simp; omega); simpa [Nat.add_assoc, Nat.add_comm 1 j] using this) (by simp only [List.length_cons] at hk; omega) (inv.set hr' hkn) hB' hK)

/-- The head quiet in C, the tail walked as a list. -/
theorem wp_region_class_tail {id : Nat} {Q : Exit → Act → World → Prop} {a : Act} {w : World} {l : List Oper} (n : Nat) (hm : P.follows .mixedOrders = true) (hB : Region.lexTailB .any l.toArray n = true)
    (C : World → Prop) (hC : C w.drew)
    (h : wpQuiet P l.toArray C (fun a' => ∀ w', C w' → wpList P l.toArray Q (l.drop n) a' w') (l.take n) a) : (Code.region id l.toArray true).wp P Q a w := by
  simp only [Region.lexTailB, Bool.and_eq_true, decide_eq_true_eq] at hB
  obtain ⟨⟨⟨⟨hsel, hn⟩, hs⟩, hc⟩, hlex⟩ := hB
  have hn' : n < l.length := by simpa using hn
  have htl : (l.take n).length = n := by simp; omega
  have hdl : (l.drop n).length = l.toArray.size - n := by simp
  have inv0 : HeadInv .any l.toArray n (Array.replicate l.toArray.size false) :=
    ⟨by simp, fun j oj _ hl => (by rw [getD_replicate_false] at hl; cases hl), fun t _ ht => getD_in (by simpa using ht) (getD_replicate_false _ _)⟩
  have H := anyC_lex (md := .any) (g := l.toArray.size - n) hsel hs hc hn (l.take n) 0 _ a (fun j hj => by
    have hj' : j < n := by rw [htl] at hj; exact hj
    simp [hj']) (by simpa using htl) inv0 (by rw [htl]; exact hlex) h
  refine wp_region_any hm ?_
  have := any_of_anyC (Q' := Q) (g := l.toArray.size - n) (fun listed a' w' hw' hL => by
    have := wpAny_of_seq (md := .any) (Q' := Q) (l.drop n) n listed a' w' (fun j => by simp [List.getElem?_drop]) (by rw [hdl]; exact hL.1) (hL.2 w' hw')
    rwa [hdl] at this) _ _ _ w.drew hC H
  rw [htl, show n + (l.toArray.size - n) = l.toArray.size by omega] at this
  exact this

/-- All of it quiet in C. -/
theorem wp_region_class {id : Nat} {Q : Exit → Act → World → Prop} {a : Act} {w : World} {l : List Oper} (hm : P.follows .mixedOrders = true) (hB : Region.lexB .any l.toArray = true)
    (C : World → Prop) (hC : C w.drew)
    (h : wpQuiet P l.toArray C (fun a' => ∀ w', C w' → Q .normal a' w') l a) : (Code.region id l.toArray true).wp P Q a w :=
  wp_region_quiet (C := C) hm hB hC (by simpa using h)

/-- The class as a family of worlds 'val t': facts on all of them stand in the walk's context as 'for all t'. -/
theorem wp_region_fam {id : Nat} {Q : Exit → Act → World → Prop} {a : Act} {w : World} {l : List Oper} (hm : P.follows .mixedOrders = true) (hB : Region.lexB .any l.toArray = true)
    {T : Type} (val : T → World) (hC : ∃ t, w.drew = val t)
    (h : wpQuiet P l.toArray (fun w' => ∃ t, w' = val t) (fun a' => ∀ t, Q .normal a' (val t)) l a) : (Code.region id l.toArray true).wp P Q a w :=
  wp_region_quiet (C := fun w' => ∃ t, w' = val t) hm hB hC (by
    have e : (fun a' => ∀ w', (∃ t, w' = val t) → Q .normal a' w') = (fun a' => ∀ t, Q .normal a' (val t)) := by
      funext a'
      exact propext ⟨fun h t => h _ ⟨t, rfl⟩, fun h w' ⟨t, ht⟩ => ht ▸ h t⟩
    rw [e]
    simpa using h)

theorem wp_region_fam_tail {id : Nat} {Q : Exit → Act → World → Prop} {a : Act} {w : World} {l : List Oper} (n : Nat) (hm : P.follows .mixedOrders = true) (hB : Region.lexTailB .any l.toArray n = true)
    {T : Type} (val : T → World) (hC : ∃ t, w.drew = val t)
    (h : wpQuiet P l.toArray (fun w' => ∃ t, w' = val t) (fun a' => ∀ t, wpList P l.toArray Q (l.drop n) a' (val t)) (l.take n) a) : (Code.region id l.toArray true).wp P Q a w :=
  wp_region_class_tail n hm hB (fun w' => ∃ t, w' = val t) hC (by
    have e : (fun a' => ∀ w', (∃ t, w' = val t) → wpList P l.toArray Q (l.drop n) a' w') = (fun a' => ∀ t, wpList P l.toArray Q (l.drop n) a' (val t)) := by
      funext a'
      exact propext ⟨fun h t => h _ ⟨t, rfl⟩, fun h w' ⟨t, ht⟩ => ht ▸ h t⟩
    rw [e]
    exact h)

/-- A callee's contract, met in a world of the family. -/
theorem Calls.fam_of {f : FuncId} {args : Array Value} {w : World} {v : Value} {T : Type} {val : T → World} {R : World → Prop}
    (h : Calls P f args w fun e w' => e = .returned v ∧ R w') (hR : ∀ w', R w' → ∃ t, w' = val t) : Calls P f args w fun e w'' => e = .returned v ∧ ∃ t, w'' = val t :=
  h.mono fun _ _ ⟨he, hw⟩ => ⟨he, hR _ hw⟩
/-- An operation whose run is known whole. -/
theorem wpList_run {Q : Exit → Act → World → Prop} {a : Act} {w : World} {rest : List Oper} {o : Oper} (hgd : o.guard = none) (v : Value) (w' : World) (hrun : (execOp a.eval o).run P w = .ok (.value v) w')
    (h : wpList P ops Q rest (a.put o.dst v) w') : wpList P ops Q (o :: rest) a w :=
  wpList_plain hgd fun K hK => by
    unfold Oper.wp
    rw [hrun]
    exact hK _ _ h
end
end Go.Proofs.YtilpbjcbffbjeaaGreatDoor
namespace Go.Proofs.YtilpbjcbffbjeaaGreatDoor
section
variable {P : Program} {ops : Array Oper} {Q : Exit → Act → World → Prop} {md : Region.Mode} {S : World → Prop} {n : Nat}
/-- Whatever order is picked, and S holds behind every operation below n. -/
def wpAnyU (P : Program) (md : Region.Mode) (ops : Array Oper) (n : Nat) (Q : Exit → Act → World → Prop) (S : World → Prop) : Nat → Array Bool → Act → World → Prop
  | 0, listed, a, w => wpAny P md ops Q 0 listed a w
  | fuel + 1, listed, a, w => HeadInv md ops n listed → (Region.ready md ops listed = [] → Q .normal a w) ∧
      ∀ i ∈ Region.ready md ops listed, if i < n then wpOp P ops Q i (fun a' w' => S w' ∧ wpAnyU P md ops n Q S fuel (listed.setIfInBounds i true) a' w') a w else wpOp P ops Q i (wpAny P md ops Q fuel (listed.setIfInBounds i true)) a w
theorem wpAny_of_U : ∀ (fuel : Nat) (listed : Array Bool) (a : Act) (w : World), HeadInv md ops n listed → wpAnyU P md ops n Q S fuel listed a w → wpAny P md ops Q fuel listed a w
  | 0, _, _, _, _, h => h
  | fuel + 1, listed, a, w, inv, h => ⟨(h inv).1, fun i hi => by
      have h1 := (h inv).2 i hi
      by_cases hin : i < n
      · rw [if_pos hin] at h1
        exact wpOp_mono (fun a' w' h' => wpAny_of_U fuel _ a' w' (inv.set hi hin) h'.2) h1
      · rw [if_neg hin] at h1
        exact h1⟩
theorem wpAnyU_first {i : Nat} {oi : Oper} {v : Value} (hi : ops[i]? = some oi) (hin : i < n) (hs : Region.sinkB md ops n = true) (hc : Region.chainB md ops n = true) (hn : n < ops.size)
    (hsel : ∀ (j : Nat) (o : Oper) cs b, ops[j]? = some o → o.op ≠ .select cs b)
    (hQ : ∀ c a w, Q (.panic c) (a.put oi.dst v) w → Q (.panic c) a w) :
    ∀ (fuel : Nat) (listed : Array Bool) (a : Act) (w : World),
      (∀ j oj, ops[j]? = some oj → j ≠ i → listed.getD j true = false → (∀ e ∈ oj.after, Region.binds md e = true → e.on ≠ i) → oi.apart ops oj = true) →
      i ∈ Region.ready md ops listed → YieldsIf P ops S oi v a → S w →
      wpAnyU P md ops n Q S fuel (listed.setIfInBounds i true) (a.put oi.dst v) w → wpAnyU P md ops n Q S (fuel + 1) listed a w := by
  intro fuel
  induction fuel with
  | zero =>
    intro listed a w _ hr hy hS H inv
    refine ⟨fun h => (by rw [h] at hr; cases hr), fun j hj => ?_⟩
    by_cases hji : j = i
    · subst hji; rw [if_pos hin]; exact hy.wpOp hi hS ⟨hS, H⟩
    · have := ready_mono hj hji
      rw [H.1] at this
      cases this
  | succ fuel ih =>
    intro listed a w hfree hr hy hS H inv
    refine ⟨fun h => (by rw [h] at hr; cases hr), fun j hj => ?_⟩
    have hun := (mem_ready.1 hr).1
    have hjn : j < n := by
      rcases Nat.lt_or_ge j n with h | h
      · exact h
      · exact absurd hj (tail_waits hs hc hn inv _ i rfl hin hun j h)
    rw [if_pos hjn]
    by_cases hji : j = i
    · subst hji; exact hy.wpOp hi hS ⟨hS, H⟩
    · have h1 := (H (inv.set hr hin)).2 j (ready_mono hj hji)
      rw [if_pos hjn] at h1
      obtain ⟨hjun, oj, hoj, hall⟩ := mem_ready.1 hj
      have hnot : ∀ e ∈ oj.after, Region.binds md e = true → e.on ≠ i := fun e he hb heq => by
        have h1 := hall e he hb
        rw [heq, getD_both hun] at h1
        cases h1
      have h2 := wpOp_putIf hoj (hfree j oj hoj hji hjun hnot) (fun cs b => hsel i oi cs b hi) (fun cs b => hsel j oj cs b hoj) hQ hy h1
      have hfree' : ∀ k ok, ops[k]? = some ok → k ≠ i → (listed.setIfInBounds j true).getD k true = false →
          (∀ e ∈ ok.after, Region.binds md e = true → e.on ≠ i) → oi.apart ops ok = true := fun k ok hk hki hun hno => by
        refine hfree k ok hk hki ?_ hno
        by_cases hjk : j = k
        · subst hjk; exact hjun
        · rw [getD_set_ne true hjk] at hun; exact hun
      refine wpOp_mono (fun a' w' h3 => ⟨h3.2.1, ih (listed.setIfInBounds j true) a' w' hfree' (ready_mono hr (Ne.symm hji)) h3.1 h3.2.1 ?_⟩) h2
      rw [Array.setIfInBounds_comm _ _ hji]
      exact h3.2.2
/-- What the region must be: no select; its last operation waits for all others. -/
def lastB (md : Region.Mode) (ops : Array Oper) (n : Nat) : Bool := Region.noSelect ops && decide (n < ops.size) && Region.sinkB md ops n && Region.chainB md ops n
theorem wpAnyU_take (i : Nat) {oi : Oper} {v : Value} {fuel : Nat} {listed : Array Bool} {a : Act} {w : World} (hi : ops[i]? = some oi) (hB : lastB md ops n = true)
    (hf : (decide (i < n) && Region.free md ops listed i && (Region.ready md ops listed).contains i) = true)
    (hQ : ∀ c a w, Q (.panic c) (a.put oi.dst v) w → Q (.panic c) a w) (hy : YieldsIf P ops S oi v a) (hS : S w)
    (h : wpAnyU P md ops n Q S fuel (listed.setIfInBounds i true) (a.put oi.dst v) w) : wpAnyU P md ops n Q S (fuel + 1) listed a w := by
  simp only [lastB, Bool.and_eq_true, decide_eq_true_eq] at hB hf
  exact wpAnyU_first hi hf.1.1 hB.1.2 hB.2 hB.1.1.2 (Region.noSelect_spec hB.1.1.1) hQ fuel listed a w (Region.free_spec hi hf.1.2) (by simpa using hf.2) hy hS h
theorem get_drop {l : List Oper} {i : Nat} {o : Oper} {r : List Oper} (h : l.drop i = o :: r) : l.toArray[i]? = some o := by
  have h1 : (l.drop i)[0]? = some o := by rw [h]; rfl
  rw [List.getElem?_drop, Nat.add_zero] at h1
  simpa using h1
/-- Number i taken first, its text read off the list. -/
theorem takeU (i : Nat) {l : List Oper} {oi : Oper} {r : List Oper} {v : Value} {fuel : Nat} {listed : Array Bool} {a : Act} {w : World} (hi : l.drop i = oi :: r) (hB : lastB md l.toArray n = true)
    (hf : (decide (i < n) && Region.free md l.toArray listed i && (Region.ready md l.toArray listed).contains i) = true)
    (hQ : ∀ c a w, Q (.panic c) (a.put oi.dst v) w → Q (.panic c) a w) (hg : Region.wanted oi (yielded l.toArray a.tmps) = true) (hy : ∀ w, S w → (execOp a.eval oi).run P w = .ok (.value v) w) (hS : S w)
    (h : wpAnyU P md l.toArray n Q S fuel (listed.setIfInBounds i true) (a.put oi.dst v) w) : wpAnyU P md l.toArray n Q S (fuel + 1) listed a w :=
  wpAnyU_take i (get_drop hi) hB hf hQ (.inl ⟨hg, hy⟩) hS h
/-- One that may come up, below n, by its own law. -/
theorem someU (i : Nat) {l : List Oper} {o : Oper} {r : List Oper} {fuel : Nat} {listed : Array Bool} {a : Act} {w : World} (hi : l.drop i = o :: r) (hin : decide (i < n) = true)
    (h : if Region.wanted o (yielded l.toArray a.tmps) = true then Oper.wp P o a w (fun a' w' => S w' ∧ wpAnyU P md l.toArray n Q S fuel (listed.setIfInBounds i true) a' w') Q else (S w ∧ wpAnyU P md l.toArray n Q S fuel (listed.setIfInBounds i true) (a.put o.dst undef) w)) :
    if i < n then wpOp P l.toArray Q i (fun a' w' => S w' ∧ wpAnyU P md l.toArray n Q S fuel (listed.setIfInBounds i true) a' w') a w else wpOp P l.toArray Q i (wpAny P md l.toArray Q fuel (listed.setIfInBounds i true)) a w := by
  rw [if_pos (of_decide_eq_true hin)]
  unfold wpOp
  rw [get_drop hi]
  show if Region.wanted o (yielded l.toArray a.tmps) = true then _ else _
  split
  · rename_i hw; rw [if_pos hw] at h; exact .inl h
  · rename_i hw; rw [if_neg hw] at h; exact h
/-- One whose guard says no. -/
theorem skipU (i : Nat) {l : List Oper} {oi : Oper} {r : List Oper} {fuel : Nat} {listed : Array Bool} {a : Act} {w : World} (hi : l.drop i = oi :: r) (hB : lastB md l.toArray n = true)
    (hf : (decide (i < n) && Region.free md l.toArray listed i && (Region.ready md l.toArray listed).contains i) = true)
    (hQ : ∀ c a w, Q (.panic c) (a.put oi.dst undef) w → Q (.panic c) a w) (hg : Region.wanted oi (yielded l.toArray a.tmps) = false) (hS : S w)
    (h : wpAnyU P md l.toArray n Q S fuel (listed.setIfInBounds i true) (a.put oi.dst undef) w) : wpAnyU P md l.toArray n Q S (fuel + 1) listed a w :=
  wpAnyU_take i (get_drop hi) hB hf hQ (.inr ⟨hg, rfl⟩) hS h
/-- A call, below n. -/
theorem callU (i : Nat) {l : List Oper} {o : Oper} {r : List Oper} {fuel : Nat} {listed : Array Bool} {a : Act} {w : World} (hi : l.drop i = o :: r) (hin : decide (i < n) = true) (hw : Region.wanted o (yielded l.toArray a.tmps) = true)
    (f : FuncId) (xs : Array Operand) (ats : Array TypeId) (ho : o.op = .call { callee := .value (.func f), args := xs, argTypes := ats }) (args : Array Value) (hargs : xs.map a.eval = args) (hent : ∀ args w, (callFunc f args).run P w = .ok (.enter f args) w)
    (R : Value → World → Prop) (hc : Calls P f args w fun e w' => ∃ v, e = .returned v ∧ R v w')
    (h : ∀ v w', R v w' → S w' ∧ wpAnyU P md l.toArray n Q S fuel (listed.setIfInBounds i true) (a.put o.dst v) w') :
    if i < n then wpOp P l.toArray Q i (fun a' w' => S w' ∧ wpAnyU P md l.toArray n Q S fuel (listed.setIfInBounds i true) a' w') a w else wpOp P l.toArray Q i (wpAny P md l.toArray Q fuel (listed.setIfInBounds i true)) a w := by
  refine someU i hi hin ?_
  rw [if_pos hw]
  unfold Oper.wp
  have e : (execOp a.eval o).run P w = .ok (.enter f args) w := by
    have e : execOp a.eval o = callFunc f (#[] ++ xs.map a.eval ++ #[]) := by
      obtain ⟨dst, op, ty, pos, after, guard⟩ := o
      simp only at ho
      subst ho
      rfl
    rw [e, hargs]
    simpa using hent args w
  rw [e]
  exact hc.mono fun e' w' ⟨v, he, hR⟩ => by subst he; exact h v w' hR
/-- The last, if it is quiet. -/
theorem endU (i : Nat) {l : List Oper} {o : Oper} {r : List Oper} {v : Value} {fuel : Nat} {listed : Array Bool} {a : Act} {w : World} (hi : l.drop i = o :: r) (hin : decide (i < n) = false) (hr : Region.ready md l.toArray (listed.setIfInBounds i true) = [])
    (hw : Region.wanted o (yielded l.toArray a.tmps) = true) (hrun : (execOp a.eval o).run P w = .ok (.value v) w) (h : Q .normal (a.put o.dst v) w) :
    if i < n then wpOp P l.toArray Q i (fun a' w' => S w' ∧ wpAnyU P md l.toArray n Q S fuel (listed.setIfInBounds i true) a' w') a w else wpOp P l.toArray Q i (wpAny P md l.toArray Q fuel (listed.setIfInBounds i true)) a w := by
  rw [if_neg (of_decide_eq_false hin)]
  unfold wpOp
  rw [get_drop hi]
  show if Region.wanted o (yielded l.toArray a.tmps) = true then _ else _
  rw [if_pos hw]
  refine .inl ?_
  unfold Oper.wp
  rw [hrun]
  exact wpAny_done hr h fuel
/-- The last. -/
theorem lastU (i : Nat) {l : List Oper} {o : Oper} {r : List Oper} {fuel : Nat} {listed : Array Bool} {a : Act} {w : World} (hi : l.drop i = o :: r) (hin : decide (i < n) = false) (hr : Region.ready md l.toArray (listed.setIfInBounds i true) = [])
    (h : if Region.wanted o (yielded l.toArray a.tmps) = true then Oper.wp P o a w (fun a' w' => Q .normal a' w') Q else Q .normal (a.put o.dst undef) w) :
    if i < n then wpOp P l.toArray Q i (fun a' w' => S w' ∧ wpAnyU P md l.toArray n Q S fuel (listed.setIfInBounds i true) a' w') a w else wpOp P l.toArray Q i (wpAny P md l.toArray Q fuel (listed.setIfInBounds i true)) a w := by
  rw [if_neg (of_decide_eq_false hin)]
  have hd : ∀ a' w', Q .normal a' w' → wpAny P md l.toArray Q fuel (listed.setIfInBounds i true) a' w' := fun a' w' hq => wpAny_done hr hq fuel
  unfold wpOp
  rw [get_drop hi]
  show if Region.wanted o (yielded l.toArray a.tmps) = true then _ else _
  split
  · rename_i hw; rw [if_pos hw] at h; exact .inl (Oper.wp_mono hd h)
  · rename_i hw; rw [if_neg hw] at h; exact hd _ _ h
theorem wpAnyU_all (rs : List Nat) {fuel : Nat} {listed : Array Bool} {a : Act} {w : World} (hr : Region.ready md ops listed = rs) (hne : rs ≠ [])
    (h : ∀ i ∈ rs, if i < n then wpOp P ops Q i (fun a' w' => S w' ∧ wpAnyU P md ops n Q S fuel (listed.setIfInBounds i true) a' w') a w else wpOp P ops Q i (wpAny P md ops Q fuel (listed.setIfInBounds i true)) a w) : wpAnyU P md ops n Q S (fuel + 1) listed a w :=
  fun _ => ⟨fun h0 => absurd (hr ▸ h0) hne, hr ▸ h⟩
theorem oneU (i : Nat) {fuel : Nat} {listed : Array Bool} {a : Act} {w : World} (hr : Region.ready md ops listed = [i])
    (h : if i < n then wpOp P ops Q i (fun a' w' => S w' ∧ wpAnyU P md ops n Q S fuel (listed.setIfInBounds i true) a' w') a w else wpOp P ops Q i (wpAny P md ops Q fuel (listed.setIfInBounds i true)) a w) : wpAnyU P md ops n Q S (fuel + 1) listed a w :=
  wpAnyU_all [i] hr (by simp) (fun j hj => by
    have e : j = i := by simpa using hj
    subst e
    exact h)
theorem twoU (i k : Nat) {fuel : Nat} {listed : Array Bool} {a : Act} {w : World} (hr : Region.ready md ops listed = [i, k])
    (h : if i < n then wpOp P ops Q i (fun a' w' => S w' ∧ wpAnyU P md ops n Q S fuel (listed.setIfInBounds i true) a' w') a w else wpOp P ops Q i (wpAny P md ops Q fuel (listed.setIfInBounds i true)) a w)
    (h2 : if k < n then wpOp P ops Q k (fun a' w' => S w' ∧ wpAnyU P md ops n Q S fuel (listed.setIfInBounds k true) a' w') a w else wpOp P ops Q k (wpAny P md ops Q fuel (listed.setIfInBounds k true)) a w) : wpAnyU P md ops n Q S (fuel + 1) listed a w :=
  wpAnyU_all [i, k] hr (by simp) (fun j hj => by
    rcases List.mem_cons.1 hj with e | hj
    · subst e; exact h
    · have e : j = k := by simpa using hj
      subst e; exact h2)
/-- One that may come up, by its own law. -/
theorem wpOp_law {i : Nat} {o : Oper} {K : Act → World → Prop} {a : Act} {w : World} (ho : ops[i]? = some o)
    (h : if Region.wanted o (yielded ops a.tmps) = true then Oper.wp P o a w K Q else K (a.put o.dst undef) w) : wpOp P ops Q i K a w := by
  unfold wpOp
  rw [ho]
  show if Region.wanted o (yielded ops a.tmps) = true then _ else _
  split
  · rename_i hw; rw [if_pos hw] at h; exact .inl h
  · rename_i hw; rw [if_neg hw] at h; exact h
theorem wp_region_U {id : Nat} {a : Act} {w : World} {l : List Oper} (n : Nat) (S : World → Prop) (hm : P.follows .mixedOrders = true)
    (h : wpAnyU P .any l.toArray n Q S l.length (Array.replicate l.length false) a w.drew) : (Code.region id l.toArray true).wp P Q a w := by
  refine wp_region_any hm ?_
  have inv0 : HeadInv .any l.toArray n (Array.replicate l.toArray.size false) :=
    ⟨by simp, fun j oj _ hl => (by rw [getD_replicate_false] at hl; cases hl), fun t _ ht => getD_in (by simpa using ht) (getD_replicate_false _ _)⟩
  exact wpAny_of_U _ _ _ _ inv0 (by simpa using h)
end
end Go.Proofs.YtilpbjcbffbjeaaGreatDoor
namespace Go.Proofs.YtilpbjcbffbjeaaGreatDoor
open Go.RowKit

/-- An operation that yields a known value and leaves the world alone. -/
theorem wpList_pure {P : Program} {ops : Array Oper} {Q : Exit → Act → World → Prop} {a : Act} {w : World} {rest : List Oper} {o : Oper} (hgd : o.guard = none) (v : Value) (hrun : ∀ w, (execOp a.eval o).run P w = .ok (.value v) w)
    (h : wpList P ops Q rest (a.put o.dst v) w) : wpList P ops Q (o :: rest) a w := wpList_run hgd v w (hrun w) h

/-! ### numbers -/
theorem toNat_ofInt_nat (n a : Nat) (ha : a < 2 ^ n) : (BitVec.ofInt n (a : Int)).toNat = a := by
  rw [BitVec.ofInt_natCast, BitVec.toNat_ofNat, Nat.mod_eq_of_lt ha]
theorem wrap_u8_nat (a : Nat) (ha : a < 2 ^ 8) : IntKind.u8.wrap (a : Int) = a := by rw [IntKind.wrap_u8]; omega
theorem wrap_u32_nat (a : Nat) (ha : a < 2 ^ 32) : IntKind.u32.wrap (a : Int) = a := by rw [IntKind.wrap_u32]; omega
theorem wrap_u64_nat (a : Nat) (ha : a < 2 ^ 64) : IntKind.u64.wrap (a : Int) = a := by rw [IntKind.wrap_u64]; omega
theorem or_u32 (a b : Nat) (ha : a < 2 ^ 32) (hb : b < 2 ^ 32) : bits .or .u32 (a : Int) (b : Int) = ((a ||| b : Nat) : Int) := by
  show IntKind.u32.wrap ((BitVec.ofInt 32 (a : Int) ||| BitVec.ofInt 32 (b : Int)).toNat : Int) = _
  rw [BitVec.toNat_or, toNat_ofInt_nat 32 a ha, toNat_ofInt_nat 32 b hb]; exact wrap_u32_nat _ (Nat.or_lt_two_pow ha hb)
theorem xor_u32 (a b : Nat) (ha : a < 2 ^ 32) (hb : b < 2 ^ 32) : bits .xor .u32 (a : Int) (b : Int) = ((a ^^^ b : Nat) : Int) := by
  show IntKind.u32.wrap ((BitVec.ofInt 32 (a : Int) ^^^ BitVec.ofInt 32 (b : Int)).toNat : Int) = _
  rw [BitVec.toNat_xor, toNat_ofInt_nat 32 a ha, toNat_ofInt_nat 32 b hb]; exact wrap_u32_nat _ (Nat.xor_lt_two_pow ha hb)
theorem and_u32 (a b : Nat) (ha : a < 2 ^ 32) (hb : b < 2 ^ 32) : bits .and .u32 (a : Int) (b : Int) = ((a &&& b : Nat) : Int) := by
  show IntKind.u32.wrap ((BitVec.ofInt 32 (a : Int) &&& BitVec.ofInt 32 (b : Int)).toNat : Int) = _
  rw [BitVec.toNat_and, toNat_ofInt_nat 32 a ha, toNat_ofInt_nat 32 b hb]; exact wrap_u32_nat _ (Nat.and_lt_two_pow _ hb)
theorem or_u64 (a b : Nat) (ha : a < 2 ^ 64) (hb : b < 2 ^ 64) : bits .or .u64 (a : Int) (b : Int) = ((a ||| b : Nat) : Int) := by
  show IntKind.u64.wrap ((BitVec.ofInt 64 (a : Int) ||| BitVec.ofInt 64 (b : Int)).toNat : Int) = _
  rw [BitVec.toNat_or, toNat_ofInt_nat 64 a ha, toNat_ofInt_nat 64 b hb]; exact wrap_u64_nat _ (Nat.or_lt_two_pow ha hb)
theorem xor_u64 (a b : Nat) (ha : a < 2 ^ 64) (hb : b < 2 ^ 64) : bits .xor .u64 (a : Int) (b : Int) = ((a ^^^ b : Nat) : Int) := by
  show IntKind.u64.wrap ((BitVec.ofInt 64 (a : Int) ^^^ BitVec.ofInt 64 (b : Int)).toNat : Int) = _
  rw [BitVec.toNat_xor, toNat_ofInt_nat 64 a ha, toNat_ofInt_nat 64 b hb]; exact wrap_u64_nat _ (Nat.xor_lt_two_pow ha hb)
theorem and_u64 (a b : Nat) (ha : a < 2 ^ 64) (hb : b < 2 ^ 64) : bits .and .u64 (a : Int) (b : Int) = ((a &&& b : Nat) : Int) := by
  show IntKind.u64.wrap ((BitVec.ofInt 64 (a : Int) &&& BitVec.ofInt 64 (b : Int)).toNat : Int) = _
  rw [BitVec.toNat_and, toNat_ofInt_nat 64 a ha, toNat_ofInt_nat 64 b hb]; exact wrap_u64_nat _ (Nat.and_lt_two_pow _ hb)
theorem xor_u8 (a b : Nat) (ha : a < 2 ^ 8) (hb : b < 2 ^ 8) : bits .xor .u8 (a : Int) (b : Int) = ((a ^^^ b : Nat) : Int) := by
  show IntKind.u8.wrap ((BitVec.ofInt 8 (a : Int) ^^^ BitVec.ofInt 8 (b : Int)).toNat : Int) = _
  rw [BitVec.toNat_xor, toNat_ofInt_nat 8 a ha, toNat_ofInt_nat 8 b hb]; exact wrap_u8_nat _ (Nat.xor_lt_two_pow ha hb)

/-! ### a row of numbers: block B holds N numbers of kind k, the j-th is f j -/
def nums (k : IntKind) (l : List Nat) : List Value := l.map fun (n : Nat) => Value.int k (n : Int)
def rowOf (k : IntKind) (N : Nat) (f : Nat → Nat) : List Value := nums k ((List.range N).map f)
def Row (w : World) (B : Nat) (T : TypeId) (k : IntKind) (N : Nat) (f : Nat → Nat) : Prop := w.heap[B]? = some (.cells (rowOf k N f).toArray T (0, 0))

theorem length_rowOf (k : IntKind) (N : Nat) (f : Nat → Nat) : (rowOf k N f).length = N := by simp [rowOf, nums]
theorem getElem?_rowOf (k : IntKind) (N : Nat) (f : Nat → Nat) (j : Nat) (hj : j < N) : (rowOf k N f)[j]? = some (.int k (f j : Int)) := by
  simp [rowOf, nums, hj]
theorem rowOf_congr {k : IntKind} {N : Nat} {f g : Nat → Nat} (h : ∀ j, j < N → f j = g j) : rowOf k N f = rowOf k N g := by
  unfold rowOf nums
  rw [List.map_map, List.map_map]
  exact List.map_congr_left fun j hj => by have := h j (List.mem_range.1 hj); simp [this]
theorem rowOf_list (k : IntKind) (l : List Nat) : rowOf k l.length (fun j => l.getD j 0) = nums k l := by
  refine List.ext_getElem? fun j => ?_
  by_cases hj : j < l.length
  · rw [getElem?_rowOf k _ _ j hj]; simp [nums, hj]
  · rw [List.getElem?_eq_none (by rw [length_rowOf]; omega), List.getElem?_eq_none (by simp [nums]; omega)]

theorem Row.of {w : World} {B : Nat} {T : TypeId} {k : IntKind} {N : Nat} {f : Nat → Nat} (h : w.heap[B]? = some (.cells (rowOf k N f).toArray T (0, 0))) : Row w B T k N f := h
theorem Row.heap {w : World} {B : Nat} {T : TypeId} {k : IntKind} {N : Nat} {f : Nat → Nat} (h : Row w B T k N f) : w.heap[B]? = some (.cells (rowOf k N f).toArray T (0, 0)) := h
section
variable {w w' : World} {B : Nat} {T : TypeId} {k : IntKind} {N : Nat} {f : Nat → Nat}
theorem Row.congr {g : Nat → Nat} (h : Row w B T k N f) (e : ∀ j, j < N → f j = g j) : Row w B T k N g := by unfold Row at *; rw [← rowOf_congr e]; exact h
theorem Row.lt (h : Row w B T k N f) : B < w.heap.size := (Array.getElem?_eq_some_iff.1 h).1
theorem Row.cell (h : Row w B T k N f) {j : Nat} (hj : j < N) : w.cell? ⟨B, j, none⟩ = some (.int k (f j : Int)) := by
  rw [cell_of_row w B j _ T (0, 0) h, List.getElem?_toArray, getElem?_rowOf k N f j hj]
theorem Row.free (h : Row w B T k N f) (j : Nat) : w.frozen? ⟨B, j, none⟩ = false := frozen_of_row w B j _ T h
theorem Row.set (h : Row w B T k N f) {i : Nat} (hi : i < N) (v : Nat) : Row (w.setCell ⟨B, i, none⟩ (.int k (v : Int))) B T k N (fun j => if j = i then v else f j) := by
  unfold Row
  rw [heap_setCell_same w B i _ T _ h]
  congr 2
  refine Array.ext_getElem? fun j => ?_
  rw [Array.getElem?_setIfInBounds]
  by_cases hj : j < N
  · by_cases e : i = j
    · subst e; rw [if_pos rfl, if_pos (by simpa [length_rowOf] using hj), List.getElem?_toArray, getElem?_rowOf _ _ _ _ hj]; simp
    · rw [if_neg e]; simp [getElem?_rowOf, hj, Ne.symm e]
  · rw [List.getElem?_toArray, List.getElem?_eq_none (by rw [length_rowOf]; omega), List.getElem?_toArray, List.getElem?_eq_none (by rw [length_rowOf]; omega)]
    split
    · rw [if_neg (by simp only [List.size_toArray, length_rowOf]; omega)]
    · rfl
theorem Row.same (h : Row w B T k N f) (e : w'.heap[B]? = w.heap[B]?) : Row w' B T k N f := by unfold Row at *; rw [e]; exact h
theorem Row.below {A : Nat} (h : Row w B T k N f) (hb : Below A w w') (hB : B < A) : Row w' B T k N f := h.same (hb.block B hB)
theorem Row.alloc (h : Row w B T k N f) (o : Obj) : Row (w.alloc o) B T k N f := h.same (Below.heap_alloc w o B h.lt)
theorem Row.drew (h : Row w B T k N f) : Row w.drew B T k N f := h
theorem Row.other (h : Row w B T k N f) (a : Addr) (v : Value) (hne : B ≠ a.block) : Row (w.setCell a v) B T k N f := h.same (heap_setCell_other w a B v hne)
theorem Row.new (w : World) (T : TypeId) (k : IntKind) (N : Nat) (f : Nat → Nat) (c : Array Value) (hc : c = (rowOf k N f).toArray) : Row (w.alloc (.cells c T)) w.heap.size T k N f := by
  subst hc; exact heap_alloc_new w _
end
theorem heap_at {w : World} {o : Obj} {n : Nat} (hn : w.heap.size = n) : (w.alloc o).heap[n]? = some o := by subst hn; exact heap_alloc_new w o
theorem heap_lt {w : World} {o : Obj} {n : Nat} (hn : n < w.heap.size) : (w.alloc o).heap[n]? = w.heap[n]? := Below.heap_alloc w o n hn
theorem oneCell_nums (k : IntKind) (l : List Nat) : ∀ v ∈ nums k l, v.oneCell' = true := by
  intro v hv
  obtain ⟨n, _, rfl⟩ := List.mem_map.1 hv
  rfl

section
variable {P : Program} {ops : Array Oper} {rest : List Oper} {o : Oper} {a : Act} {w : World} {Q : Exit → Act → World → Prop}
/-- A whole aggregate is stored into a block that is known whole. -/
theorem wpList_store_blk (hgd : o.guard = none) (ty : TypeId) (x y : Operand) (ho : o.op = .store ty x y) (g off : Nat) (cells : Array Value)
    (hx : a.eval x = .pointer (some ⟨g, off, none⟩)) (hy : a.eval y = .agg cells) (cur : Array Value) (T : TypeId) (hg : w.heap[g]? = some (.cells cur T (0, 0))) (hfit : off + cells.size ≤ cur.size)
    (hi : (P.info? ty).map (·.size) = some cells.size) (h1 : ∀ v ∈ cells.toList, v.oneCell' = true)
    (h : ∀ w', w'.heap[g]? = some (.cells (cur.toList.take off ++ cells.toList ++ cur.toList.drop (off + cells.size)).toArray T (0, 0)) → w.grownBy w' (some g) → w'.heap.size = w.heap.size → wpList P ops Q rest (a.put o.dst undef) w') :
    wpList P ops Q (o :: rest) a w := by
  refine wpList_plain hgd fun K hK => ?_
  have hst := run_storeCells_at P g off T cells.toList 0 cur w hg (by simpa using hfit) h1
  simp only [Nat.add_zero, Array.length_toList] at hst
  have hrun : (storeVar ty ⟨g, off, none⟩ (.agg cells)).run P w = .ok () (w.setRow g (cur.toList.take off ++ cells.toList ++ cur.toList.drop (off + cells.size)).toArray) := by
    cases hq : P.info? ty with
    | none => simp [hq] at hi
    | some i =>
      have hs : cells.size = i.size := by simp [hq] at hi; omega
      simp [storeVar, sizeOf, typeInfo, hq, Value.cells, hs]
      simpa [hs] using hst
  unfold Oper.wp execOp
  simp only [ho, hx, hy, Instr.storeAt, Instr.sureAddr, Sem.run_bind, Sem.run_pure, Result.andThen_ok, hrun]
  exact hK _ _ (h _ (setRow_heap w g cur _ T _ hg) ⟨rfl, rfl, rfl, by simp, fun k _ hk => setRow_other w g k _ (fun e => hk (by rw [e]))⟩ (by simp))
theorem wpList_store_Row (hgd : o.guard = none) (ty : TypeId) (x y : Operand) (ho : o.op = .store ty x y) (g : Nat) {k : IntKind} {N : Nat} {f f' : Nat → Nat} {T : TypeId}
    (hx : a.eval x = .pointer (some ⟨g, 0, none⟩)) (hy : a.eval y = .agg (rowOf k N f').toArray) (hg : Row w g T k N f) (hi : (P.info? ty).map (·.size) = some N)
    (h : ∀ w', Row w' g T k N f' → w.grownBy w' (some g) → w'.heap.size = w.heap.size → wpList P ops Q rest (a.put o.dst undef) w') : wpList P ops Q (o :: rest) a w := by
  refine wpList_store_blk hgd ty x y ho g 0 _ hx hy _ T hg.heap (by simp [length_rowOf]) (by simpa [length_rowOf] using hi) (fun v hv => oneCell_nums k _ v (by simpa [rowOf] using hv)) fun w' h1 h2 h3 => h w' (Row.of ?_) h2 h3
  rw [h1]
  simp [length_rowOf]
theorem wpList_load_Row (hgd : o.guard = none) (ty : TypeId) (x : Operand) (ho : o.op = .load ty x) (g : Nat) {k : IntKind} {N : Nat} {f : Nat → Nat} {T e : TypeId}
    (hx : a.eval x = .pointer (some ⟨g, 0, none⟩)) (hg : Row w g T k N f) (hu : P.underlying ty = some (.array N e)) (hi : (P.info? ty).map (·.size) = some N)
    (h : wpList P ops Q rest (a.put o.dst (.agg (rowOf k N f).toArray)) w) : wpList P ops Q (o :: rest) a w :=
  wpList_load_row hgd ty x ho g hx T _ (0, 0) _ hg.heap hu rfl (by simpa [length_rowOf] using hi) h
end
/-- 'copy' into a row, the source's cells being numbers of the row's kind. -/
theorem wpList_copy_Row {P : Program} {ops : Array Oper} {rest : List Oper} {o : Oper} {a : Act} {w : World} {Q : Exit → Act → World → Prop} (hgd : o.guard = none) (d s : Operand) (dT sT : TypeId)
    (ho : o.op = .call { callee := .builtin .copy, args := #[d, s], argTypes := #[dT, sT] }) (elem : TypeId) (hu : P.underlying dT = some (.slice elem)) (hsz : (P.info? elem).map (·.size) = some 1)
    (g off dLen dCap : Nat) (ad : Addr) (sLen sCap : Nat) (hd : a.eval d = .slice (some ⟨g, off, none⟩) dLen dCap) (hs : a.eval s = .slice (some ad) sLen sCap)
    {T : TypeId} {k : IntKind} {N : Nat} {f : Nat → Nat} (hg : Row w g T k N f) (h' : Nat → Nat) (n : Nat) (hn : n = Nat.min sLen dLen)
    (hsrc : ∀ j, j < n → w.cell? (ad.add j) = some (.int k (h' j : Nat))) (hfit : off + n ≤ N)
    (h : ∀ w', Row w' g T k N (fun j => if off ≤ j ∧ j < off + n then h' (j - off) else f j) → w.grownBy w' (some g) → w'.heap.size = w.heap.size → wpList P ops Q rest (a.put o.dst (goInt n)) w') : wpList P ops Q (o :: rest) a w := by
  have hlen : (rowOf k n h').length = n := length_rowOf k n h'
  refine wpList_copy_own hgd d s dT sT ho elem hu hsz g off dLen dCap ad sLen sCap hd hs _ T hg.heap (rowOf k n h') (by rw [hlen, hn]) ?_ (by simp [length_rowOf]; exact hfit) (fun v hv => oneCell_nums k _ v (by simpa [rowOf] using hv)) ?_
  · intro j v hv
    have hj : j < n := by rw [← hlen]; exact (List.getElem?_eq_some_iff.1 hv).1
    rw [getElem?_rowOf k n h' j hj] at hv
    rw [hsrc j hj, ← hv]
  · have e := h (w.setRow g ((rowOf k N f).toArray.toList.take off ++ (rowOf k n h' ++ (rowOf k N f).toArray.toList.drop (off + (rowOf k n h').length))).toArray) (Row.of ?_)
      ⟨rfl, rfl, rfl, by simp, fun k _ hk => setRow_other w g k _ (fun e => hk (by rw [e]))⟩ (by simp)
    · rw [hlen] at e ⊢; exact e
    · rw [setRow_heap w g _ _ T _ hg.heap]
      refine congrArg (fun l : List Value => some (Obj.cells l.toArray T (0, 0))) ?_
      refine List.ext_getElem? fun j => ?_
      simp only [hlen]
      by_cases h1 : j < off
      · rw [List.getElem?_append_left (by simp [length_rowOf]; omega), getElem?_rowOf _ _ _ _ (by omega), if_neg (by omega)]
        simp [h1, getElem?_rowOf _ _ _ _ (show j < N by omega)]
      · rw [List.getElem?_append_right (by simp [length_rowOf]; omega)]
        have e1 : ((rowOf k N f).take off).length = off := by simp [length_rowOf]; omega
        simp only [e1]
        by_cases h2 : j < off + n
        · rw [List.getElem?_append_left (by rw [hlen]; omega), getElem?_rowOf _ _ _ _ (by omega), getElem?_rowOf _ _ _ _ (by omega), if_pos (by omega)]
        · rw [List.getElem?_append_right (by rw [hlen]; omega), hlen, List.getElem?_drop, show off + n + (j - off - n) = j by omega]
          by_cases h3 : j < N
          · rw [getElem?_rowOf _ _ _ _ h3, getElem?_rowOf _ _ _ _ h3, if_neg (by omega)]
          · rw [List.getElem?_eq_none (by rw [length_rowOf]; omega), List.getElem?_eq_none (by rw [length_rowOf]; omega)]

theorem Row.grown {w w' : World} {B : Nat} {T : TypeId} {k : IntKind} {N : Nat} {f : Nat → Nat} {r : Option Nat} (h : Row w B T k N f) (hg : w.grownBy w' r) (hne : some B ≠ r) : Row w' B T k N f := h.same (hg.block B h.lt hne)
theorem grown_below {w w' : World} {g A : Nat} (hg : w.grownBy w' (some g)) (hA : A ≤ g) (hs : A ≤ w.heap.size) : Below A w w' :=
  ⟨hg.os, hg.tape, hg.output, hg.size, fun k hk => hg.block k (by omega) (fun e => by injection e; omega)⟩
attribute [irreducible] Row
theorem below_drewN {B : Nat} {w w' : World} (h : Below B w w') (n : Nat) : Below B w (w'.drewN n) := h.trans ⟨rfl, rfl, rfl, Nat.le_refl _, fun _ _ => rfl⟩

/-- The worlds that have all that w has, and perhaps more. -/
def Grow (w : World) : Type := { w' : World // Below w.heap.size w w' }
def Grow.val {w : World} (t : Grow w) : World := t.1
theorem Grow.below {w : World} (t : Grow w) : Below w.heap.size w t.val := t.2
theorem Grow.cell {w : World} (t : Grow w) {a : Addr} {v : Value} (h : w.cell? a = some v) : t.val.cell? a = some v := (t.below.cell (block_lt_of_cell h)).trans h
theorem Grow.row {w : World} (t : Grow w) {B T k N f} (h : Row w B T k N f) : Row t.val B T k N f := h.below t.below h.lt
theorem Grow.start (w : World) : ∃ t : Grow w, w.drew = t.val := ⟨⟨w.drew, (Below.refl _ _).drew⟩, rfl⟩
theorem Grow.again {w : World} (t : Grow w) : ∃ t' : Grow w, t.val.drew = t'.val := ⟨⟨t.val.drew, t.below.drew⟩, rfl⟩
instance (w : World) : Nonempty (Grow w) := ⟨⟨w, Below.refl _ _⟩⟩
theorem Grow.more {w : World} (t : Grow w) : ∀ w', Below t.val.heap.size t.val w' → ∃ t' : Grow w, w' = t'.val := fun w' h => ⟨⟨w', t.below.trans (h.mono t.below.size)⟩, rfl⟩
end Go.Proofs.YtilpbjcbffbjeaaGreatDoor
namespace Go.Proofs.YtilpbjcbffbjeaaGreatDoor
open Go.RowKit
/-- v holds the bytes l, in a block of its own from base on. -/
def Owns (w : World) (base : Nat) (e : TypeId) (v : Value) (l : List Nat) : Prop := w.ownsRow base e 1 v l.length (nums .u8 l)
theorem Owns.nil (w : World) (base : Nat) (e : TypeId) : Owns w base e (.slice none 0 0) [] := World.ownsRow_nil w base e 1
theorem length_nums (k : IntKind) (l : List Nat) : (nums k l).length = l.length := by simp [nums]
section
variable {P : Program} {ops : Array Oper} {rest : List Oper} {o : Oper} {a : Act} {w w' : World} {Q : Exit → Act → World → Prop} {base : Nat} {e : TypeId} {v : Value} {l : List Nat}
theorem Owns.grown {row : Option Nat} (h : Owns w base e v l) (hg : w.grownBy w' row) (hne : v.ownBlock = none ∨ v.ownBlock ≠ row) : Owns w' base e v l := World.ownsRow.kept h hg hne
theorem Grow.grown (t : Grow w) (row : Option Nat) : w.grownBy t.val row := ⟨t.below.os, t.below.tape, t.below.output, t.below.size, fun k hk _ => t.below.block k hk⟩
theorem Owns.grow (h : Owns w base e v l) (t : Grow w) : Owns t.val base e v l := h.grown (t.grown none) (by cases hv : v.ownBlock <;> simp)
theorem Owns.alloc (h : Owns w base e v l) (ob : Obj) : Owns (w.alloc ob) base e v l := World.ownsRow.alloc h ob
theorem Owns.block (h : Owns w base e v l) {k : Nat} (hk : v.ownBlock = some k) : base ≤ k ∧ k < w.heap.size := World.ownsRow.lt h k hk
theorem Owns.lit (w : World) (l : List Nat) (c : Array Value) (hb : base ≤ w.heap.size) (hc : c = (nums .u8 l).toArray) (hm : l.length ≤ maxLen) :
    Owns (w.alloc (.cells c e)) base e (.slice (some ⟨w.heap.size, 0, none⟩) l.length l.length) l := by
  subst hc
  refine ⟨by simp [nums], .inr ⟨w.heap.size, l.length, _, rfl, hb, heap_alloc_new w _, Nat.le_refl _, hm, by simp [nums], ?_⟩⟩
  simp only [nums, Nat.mul_one]
  exact List.take_of_length_le (by simp)
/-- What it is, and where it lies. -/
theorem Owns.form (h : Owns w base e v l) (h0 : 0 < l.length) : ∃ g cap, v = .slice (some ⟨g, 0, none⟩) l.length cap ∧ base ≤ g ∧ l.length ≤ cap ∧ ∀ j, j < l.length → w.cell? ⟨g, j, none⟩ = some (.int .u8 (l.getD j 0 : Nat)) := by
  rcases h.2 with ⟨_, hn⟩ | ⟨g, cap, cur, rfl, hb, hg, hnc, _, hcs, htake⟩
  · omega
  · refine ⟨g, cap, rfl, hb, hnc, fun j hj => ?_⟩
    have h1 := World.ownsRow.cellAt (w := w) (base := base) (e := e) (size := 1) (g := g) (cap := cap) (n := l.length) (xs := nums .u8 l) h j (by omega)
    rw [h1]
    simp [nums, hj]
/-- append of bytes, to bytes. -/
theorem wpList_append_bytes (hgd : o.guard = none) (s x : Operand) (t : TypeId) (ho : o.op = .call { callee := .builtin .append, args := #[s, x], argTypes := #[t, t] })
    (ht : P.underlying t = some (.slice e)) (hi : (P.info? e).map (fun i => (i.zero, i.size, i.bytes)) = some (some (.int .u8 0), 1, 1))
    (hs : a.eval s = v) (hown : Owns w base e v l) (ad : Addr) (m c : Nat) (news : List Nat) (hx : a.eval x = .slice (some ad) m c) (hm : news.length = m)
    (hnews : ∀ j, j < m → w.cell? (ad.add j) = some (.int .u8 (news.getD j 0 : Nat))) (hsz : l.length + m ≤ 140737488355328) (hbase : base ≤ w.heap.size)
    (h : ∀ v' w', Owns w' base e v' (l ++ news) → w.grownBy w' v.ownBlock → (v'.ownBlock = v.ownBlock ∨ v'.ownBlock = some w.heap.size) → wpList P ops Q rest (a.put o.dst v') w') : wpList P ops Q (o :: rest) a w := by
  obtain ⟨i0, hi0, hz0, hz1, hz2⟩ := info_parts hi
  refine wpList_append_own_at w hgd s x t ho base e i0 (.int .u8 0) 1 1 ht hi0 hz0 hz1 hz2 rfl (by decide) v l.length (nums .u8 l) hs hown ad m c (nums .u8 news) hx (by rw [length_nums]; omega) ?_ (oneCell_nums .u8 news) (by unfold maxLen; omega) (by omega) hbase ?_
  · intro j u hu
    have hj : j < news.length := by rw [← length_nums .u8 news]; exact (List.getElem?_eq_some_iff.1 hu).1
    rw [hnews j (by omega), ← hu]
    simp [nums, hj]
  · intro v' w' h1 h2 _ h4
    refine h v' w' ?_ h2 h4
    unfold Owns
    rw [List.length_append, hm]
    have : nums .u8 (l ++ news) = nums .u8 l ++ nums .u8 news := by simp [nums]
    rw [this]; exact h1
/-- The string of these bytes. -/
def strOf (l : List Nat) : ByteArray := ⟨(l.map UInt8.ofNat).toArray⟩
/-- The bytes of a string. -/
def bs (s : ByteArray) : List Nat := s.data.toList.map (·.toNat)
theorem length_bs (s : ByteArray) : (bs s).length = s.size := by simp only [bs, List.length_map, Array.length_toList]; rfl
theorem size_strOf (l : List Nat) : (strOf l).size = l.length := by show (l.map UInt8.ofNat).toArray.size = l.length; simp
theorem bs_lt (s : ByteArray) : ∀ c ∈ bs s, c < 256 := by
  intro c hc
  obtain ⟨u, _, rfl⟩ := List.mem_map.1 hc
  exact u.toNat_lt
theorem bs_strOf (l : List Nat) (h : ∀ c ∈ l, c < 256) : bs (strOf l) = l := by
  simp only [bs, strOf, List.map_map]
  conv => rhs; rw [← List.map_id l]
  refine List.map_congr_left fun c hc => ?_
  show (UInt8.ofNat c).toNat = c
  rw [UInt8.toNat_ofNat']
  exact Nat.mod_eq_of_lt (h c hc)
theorem strOf_bs (s : ByteArray) : strOf (bs s) = s := by
  obtain ⟨⟨l⟩⟩ := s
  simp [strOf, bs, Function.comp_def]
theorem bs_inj {s t : ByteArray} (h : bs s = bs t) : s = t := by rw [← strOf_bs s, ← strOf_bs t, h]
theorem bs_extract (s : ByteArray) (i j : Nat) : bs (s.extract i j) = ((bs s).drop i).take (j - i) := by
  simp only [bs, ByteArray.data_extract, Array.toList_extract, List.extract_eq_take_drop, List.map_take, List.map_drop]
theorem bs_from (s : ByteArray) (i : Nat) : bs (s.extract i s.size) = (bs s).drop i := by
  rw [bs_extract, List.take_of_length_le (by simp [length_bs])]
/-- string(b): cells that hold the bytes l. -/
theorem wpList_bytes_string (hgd : o.guard = none) (src dst : TypeId) (x : Operand) (ho : o.op = .convert src dst x) (hs : P.underlying src = some (.slice e)) (he : P.underlying e = some (.int .u8)) (hd : P.underlying dst = some .string)
    (b off len cap : Nat) (hx : a.eval x = .slice (some ⟨b, off, none⟩) len cap) (l : List Nat) (hlen : l.length = len) (hcell : ∀ j, j < len → w.cell? ⟨b, off + j, none⟩ = some (.int .u8 (l.getD j 0 : Nat)))
    (h : wpList P ops Q rest (a.put o.dst (.string (strOf l))) w) : wpList P ops Q (o :: rest) a w := by
  refine wpList_run hgd (.string (strOf l)) w ?_ h
  have hr := run_convert_bytes_arg (P := P) w src e hs he b off len cap (l.map Int.ofNat) (by simp [hlen]) (fun i hi => by
    rw [hcell i hi]
    have : i < l.length := by omega
    simp [this]) dst hd
  have e1 : strOfNums (l.map Int.ofNat) = strOf l := by simp [strOfNums, strOf]
  rw [e1] at hr
  unfold execOp
  simp only [ho, hx, Sem.run_bind, hr, Result.andThen_ok, Sem.run_pure]
end
end Go.Proofs.YtilpbjcbffbjeaaGreatDoor
namespace Go.Proofs.YtilpbjcbffbjeaaGreatDoor
open Go.RowKit

/-- The bytes of strings, one behind another. -/
def cat (ss : List ByteArray) : List Nat := ss.flatMap bs
theorem cat_nil : cat [] = [] := rfl
theorem cat_cons (s : ByteArray) (ss : List ByteArray) : cat (s :: ss) = bs s ++ cat ss := by simp [cat]
theorem cat_append (a b : List ByteArray) : cat (a ++ b) = cat a ++ cat b := by simp [cat]
theorem cat_lt (ss : List ByteArray) : ∀ c ∈ cat ss, c < 256 := by
  intro c hc
  obtain ⟨s, _, h⟩ := List.mem_flatMap.1 hc
  exact bs_lt s c h
theorem take_succ_getD {α : Type} (l : List α) (i : Nat) (d : α) (h : i < l.length) : l.take (i + 1) = l.take i ++ [l.getD i d] := by
  rw [List.take_succ_eq_append_getElem h]
  simp [h]
theorem cat_take_succ (ss : List ByteArray) (i : Nat) (h : i < ss.length) : cat (ss.take (i + 1)) = cat (ss.take i) ++ bs (ss.getD i ByteArray.empty) := by
  rw [take_succ_getD ss i ByteArray.empty h, cat_append]
  simp [cat]
theorem length_cat_take (ss : List ByteArray) (i : Nat) : (cat (ss.take i)).length ≤ (cat ss).length := by
  have h : cat ss = cat (ss.take i) ++ cat (ss.drop i) := by rw [← cat_append, List.take_append_drop]
  rw [h, List.length_append]; omega
theorem size_getD_le (ss : List ByteArray) (i : Nat) (h : i < ss.length) : (cat (ss.take i)).length + (ss.getD i ByteArray.empty).size ≤ (cat ss).length := by
  have h1 := length_cat_take ss (i + 1)
  rw [cat_take_succ ss i h, List.length_append, length_bs] at h1
  exact h1

/-- The value of a slice of strings: its strings are ss. -/
def Strs (w : World) (v : Value) (ss : List ByteArray) : Prop :=
  ∃ p cap, v = .slice p ss.length cap ∧ ∀ i, i < ss.length → ∃ b off, p = some ⟨b, off, none⟩ ∧ w.cell? ⟨b, off + i, none⟩ = some (.string (ss.getD i ByteArray.empty))
theorem Strs.below {w w' : World} {v : Value} {ss : List ByteArray} (h : Strs w v ss) (hb : Below w.heap.size w w') : Strs w' v ss := by
  obtain ⟨p, cap, rfl, hc⟩ := h
  refine ⟨p, cap, rfl, fun i hi => ?_⟩
  obtain ⟨b, off, rfl, hcell⟩ := hc i hi
  exact ⟨b, off, rfl, (hb.cell (block_lt_of_cell hcell)).trans hcell⟩
attribute [irreducible] Strs
theorem Strs.form {w : World} {v : Value} {ss : List ByteArray} (h : Strs w v ss) :
    ∃ p cap, v = .slice p ss.length cap ∧ ∀ i, i < ss.length → ∃ b off, p = some ⟨b, off, none⟩ ∧ w.cell? ⟨b, off + i, none⟩ = some (.string (ss.getD i ByteArray.empty)) := by
  unfold Strs at h; exact h
theorem Strs.mk {w : World} {p : Option Addr} {cap : Nat} {ss : List ByteArray} (h : ∀ i, i < ss.length → ∃ b off, p = some ⟨b, off, none⟩ ∧ w.cell? ⟨b, off + i, none⟩ = some (.string (ss.getD i ByteArray.empty))) :
    Strs w (.slice p ss.length cap) ss := by
  unfold Strs; exact ⟨p, cap, rfl, h⟩

/-- The value of a slice of ints: its numbers are zs. -/
def Ints (w : World) (v : Value) (zs : List Int) : Prop :=
  ∃ p cap, v = .slice p zs.length cap ∧ ∀ i, i < zs.length → ∃ b off, p = some ⟨b, off, none⟩ ∧ w.cell? ⟨b, off + i, none⟩ = some (.int .i64 (zs.getD i 0))
theorem Ints.below {w w' : World} {v : Value} {zs : List Int} (h : Ints w v zs) (hb : Below w.heap.size w w') : Ints w' v zs := by
  obtain ⟨p, cap, rfl, hc⟩ := h
  refine ⟨p, cap, rfl, fun i hi => ?_⟩
  obtain ⟨b, off, rfl, hcell⟩ := hc i hi
  exact ⟨b, off, rfl, (hb.cell (block_lt_of_cell hcell)).trans hcell⟩
attribute [irreducible] Ints
theorem Ints.form {w : World} {v : Value} {zs : List Int} (h : Ints w v zs) :
    ∃ p cap, v = .slice p zs.length cap ∧ ∀ i, i < zs.length → ∃ b off, p = some ⟨b, off, none⟩ ∧ w.cell? ⟨b, off + i, none⟩ = some (.int .i64 (zs.getD i 0)) := by
  unfold Ints at h; exact h
theorem Ints.mk {w : World} {p : Option Addr} {cap : Nat} {zs : List Int} (h : ∀ i, i < zs.length → ∃ b off, p = some ⟨b, off, none⟩ ∧ w.cell? ⟨b, off + i, none⟩ = some (.int .i64 (zs.getD i 0))) :
    Ints w (.slice p zs.length cap) zs := by
  unfold Ints; exact ⟨p, cap, rfl, h⟩

/-- append(b, s...): a string's bytes, to bytes of the call's own; where the new slice lies. -/
theorem run_append_str {P : Program} (w : World) (base : Nat) (t u ty e : TypeId) (i : TypeInfo) (ht : P.underlying t = some (.slice e)) (hu : P.underlying u = some .string) (hi : P.info? e = some i) (hz : i.zero = some (.int .u8 0))
    (hsize : i.size = 1) (hby : i.bytes = 1) (v : Value) (l : List Nat) (hown : Owns w base e v l) (s : ByteArray) (hbytes : l.length + s.size ≤ 140737488355328) (hbase : base ≤ w.heap.size) :
    ∃ v' w', (Builtin.append_ #[t, u] ty #[v, .string s]).run P w = .ok v' w' ∧ Owns w' base e v' (l ++ bs s) ∧ w.grownBy w' v.ownBlock ∧ (v'.ownBlock = v.ownBlock ∨ v'.ownBlock = some w.heap.size) := by
  have hown0 : w.ownsRow base e 1 v l.length (nums .u8 l) := hown
  obtain ⟨v', w', hr, h2, h3, _⟩ := Lib.run_append_own_string (P := P) w base t u ty e i ht hu hi hz hsize hby v l.length (nums .u8 l) hown0 s (by unfold maxLen; omega) hbytes hbase
  have hcells : nums .u8 l ++ Lib.strCells s = nums .u8 (l ++ bs s) := by
    simp [nums, Lib.strCells, bs]
  refine ⟨v', w', hr, ?_, h3, ?_⟩
  · unfold Owns
    rw [List.length_append, length_bs, ← hcells]
    exact h2
  · rcases hown0.2 with ⟨rfl, hn⟩ | ⟨g, cap, cur, rfl, hbg, hg, hnc, hcm, hcs, htake⟩
    · by_cases hm : s.size = 0
      · have hf := Lib.run_firstCells_string (P := P) w 1 s
        rw [hm] at hf
        have hr2 : (Builtin.append_ #[t, u] ty #[.slice none 0 0, .string s]).run P w = .ok (.slice none 0 0) w := by
          simp [Builtin.append_, run_underlying ht, run_underlying hu, sizeOf, typeInfo, hi, hsize, Builtin.lenOf, hm, hf]
        rw [hr2] at hr
        injection hr with hr1 _
        exact .inl (by rw [← hr1])
      · have hr2 := run_append_nil_string (P := P) w t u ty e i (.int .u8 0) ht hu hi hz s (by omega) (by omega) (by rw [hby]; omega)
        rw [hr2] at hr
        injection hr with hr1 _
        exact .inr (by rw [← hr1]; rfl)
    · by_cases hroom : l.length + s.size ≤ cap
      · have hcs' : cur.size = cap := by simpa using hcs
        have hr2 := Lib.run_append_room_string (P := P) w t u ty e i ht hu hi hsize g l.length cap cur hg s hroom (by omega)
        rw [hr2] at hr
        injection hr with hr1 _
        exact .inl (by rw [← hr1]; rfl)
      · have holds : ∀ j x, (nums .u8 l)[j]? = some x → w.cell? ((⟨g, 0, none⟩ : Addr).add j) = some x := hown0.cells (g := g) rfl
        have hr2 := Lib.run_append_grow_string (P := P) w t u ty e i (.int .u8 0) ht hu hi hz ⟨g, 0, none⟩ l.length cap (nums .u8 l) (by rw [hsize, length_nums, Nat.mul_one]) holds s (by omega) (by omega) (by rw [hby]; exact growslice_fits (by omega) (by omega))
        rw [hr2] at hr
        injection hr with hr1 _
        exact .inr (by rw [← hr1]; rfl)
theorem wpList_append_str {P : Program} {ops : Array Oper} {rest : List Oper} {o : Oper} {a : Act} {w : World} {Q : Exit → Act → World → Prop} {base : Nat} {e : TypeId} {v : Value} {l : List Nat}
    (hgd : o.guard = none) (sl x : Operand) (t u : TypeId) (ho : o.op = .call { callee := .builtin .append, args := #[sl, x], argTypes := #[t, u] })
    (ht : P.underlying t = some (.slice e)) (hu : P.underlying u = some .string) (hi : (P.info? e).map (fun i => (i.zero, i.size, i.bytes)) = some (some (.int .u8 0), 1, 1))
    (hs : a.eval sl = v) (hown : Owns w base e v l) (s : ByteArray) (hx : a.eval x = .string s) (hbytes : l.length + s.size ≤ 140737488355328) (hbase : base ≤ w.heap.size)
    (h : ∀ v' w', Owns w' base e v' (l ++ bs s) → w.grownBy w' v.ownBlock → (v'.ownBlock = v.ownBlock ∨ v'.ownBlock = some w.heap.size) → wpList P ops Q rest (a.put o.dst v') w') : wpList P ops Q (o :: rest) a w := by
  obtain ⟨i0, hi0, hz0, hz1, hz2⟩ := info_parts hi
  refine wpList_plain hgd fun K hK => ?_
  obtain ⟨v', w', hr, h2, h3, h4⟩ := run_append_str (P := P) w base t u o.type e i0 ht hu hi0 hz0 hz1 hz2 v l hown s hbytes hbase
  unfold Oper.wp execOp
  simp only [ho, resolve, invoke, builtin, Sem.run_bind, Sem.run_pure, Result.andThen_ok, List.map_toArray, List.map_cons, List.map_nil, hs, hx, hr]
  exact hK _ _ (h v' w' h2 h3 h4)
theorem Owns.shape {w : World} {base : Nat} {e : TypeId} {v : Value} {l : List Nat} (h : Owns w base e v l) : ∃ p cap, v = .slice p l.length cap := by
  rcases h.2 with ⟨rfl, hn⟩ | ⟨g, cap, cur, rfl, _⟩
  · rw [hn]; exact ⟨none, 0, rfl⟩
  · exact ⟨_, cap, rfl⟩
theorem Owns.below {w w' : World} {base : Nat} {e : TypeId} {v : Value} {l : List Nat} (h : Owns w base e v l) (hb : Below w.heap.size w w') : Owns w' base e v l :=
  h.grown (row := none) ⟨hb.os, hb.tape, hb.output, hb.size, fun k hk _ => hb.block k hk⟩ (by cases hv : v.ownBlock <;> simp)
theorem run_owned_string {P : Program} (w : World) {base : Nat} {e : TypeId} {v : Value} {l : List Nat} (src dst : TypeId) (hs : P.underlying src = some (.slice e)) (he : P.underlying e = some (.int .u8)) (hd : P.underlying dst = some .string)
    (hown : Owns w base e v l) : (convert src dst v).run P w = .ok (.string (strOf l)) w := by
  rcases hown.2 with ⟨rfl, hn⟩ | ⟨g, cap, cur, rfl, hb, hg, hnc, _, hcs, htake⟩
  · obtain rfl : l = [] := List.eq_nil_of_length_eq_zero hn
    exact run_convert_bytes_nil (P := P) (w := w) src e hs he 0 0 dst hd
  · have hr := run_convert_bytes_arg (P := P) w src e hs he g 0 l.length cap (l.map Int.ofNat) (by simp) (fun i hi => by
      have h1 := World.ownsRow.cellAt (w := w) (base := base) (e := e) (size := 1) (g := g) (cap := cap) (n := l.length) (xs := nums .u8 l) hown i (by omega)
      rw [Nat.zero_add, h1]
      simp [nums, hi]) dst hd
    have e1 : strOfNums (l.map Int.ofNat) = strOf l := by simp [strOfNums, strOf]
    rw [e1] at hr
    exact hr
/-- string(b): bytes of the call's own. -/
theorem wpList_owned_string {P : Program} {ops : Array Oper} {rest : List Oper} {o : Oper} {a : Act} {w : World} {Q : Exit → Act → World → Prop} {base : Nat} {e : TypeId} {v : Value} {l : List Nat}
    (hgd : o.guard = none) (src dst : TypeId) (x : Operand) (ho : o.op = .convert src dst x) (hs : P.underlying src = some (.slice e)) (he : P.underlying e = some (.int .u8)) (hd : P.underlying dst = some .string)
    (hx : a.eval x = v) (hown : Owns w base e v l) (h : wpList P ops Q rest (a.put o.dst (.string (strOf l))) w) : wpList P ops Q (o :: rest) a w := by
  rcases hown.2 with ⟨rfl, hn⟩ | ⟨g, cap, cur, rfl, hb, hg, hnc, _, hcs, htake⟩
  · obtain rfl : l = [] := List.eq_nil_of_length_eq_zero hn
    refine wpList_run hgd (.string (strOf [])) w ?_ h
    have hr := run_convert_bytes_nil (P := P) (w := w) src e hs he 0 0 dst hd
    unfold execOp
    simp only [ho, hx, Sem.run_bind, hr, Result.andThen_ok, Sem.run_pure]
    rfl
  · refine wpList_bytes_string hgd src dst x ho hs he hd g 0 l.length cap hx l rfl (fun j hj => ?_) h
    rw [Nat.zero_add]
    have h1 := World.ownsRow.cellAt (w := w) (base := base) (e := e) (size := 1) (g := g) (cap := cap) (n := l.length) (xs := nums .u8 l) hown j (by omega)
    rw [h1]
    simp [nums, hj]
end Go.Proofs.YtilpbjcbffbjeaaGreatDoor
namespace Go.Proofs.YtilpbjcbffbjeaaGreatDoor
set_option linter.unusedVariables false
theorem bs_append (s t : ByteArray) : bs (s ++ t) = bs s ++ bs t := by simp [bs]
theorem getD_apl (a b : List Nat) (j : Nat) (h : j < a.length) : (a ++ b).getD j 0 = a.getD j 0 := by
  rw [List.getD_eq_getElem?_getD, List.getD_eq_getElem?_getD, List.getElem?_append_left h]
theorem getD_apr (a b : List Nat) (j : Nat) (h : a.length ≤ j) : (a ++ b).getD j 0 = b.getD (j - a.length) 0 := by
  rw [List.getD_eq_getElem?_getD, List.getD_eq_getElem?_getD, List.getElem?_append_right h]
theorem getD_take (a : List Nat) (j n : Nat) (h : j < n) : (a.take n).getD j 0 = a.getD j 0 := by
  rw [List.getD_eq_getElem?_getD, List.getD_eq_getElem?_getD, List.getElem?_take, if_pos h]
/-- A file: its safe bytes, and the writes behind them. -/
structure Fl where
  safe : ByteArray
  ws : List ByteArray
def Fl.zero : Fl := ⟨⟨#[]⟩, []⟩
def rdL (f : Fl) : List Nat := bs f.safe ++ cat f.ws
def rd (f : Fl) : ByteArray := strOf (rdL f)
theorem rdL_lt (f : Fl) : ∀ c ∈ rdL f, c < 256 := fun c hc => by
  rcases List.mem_append.1 hc with h | h
  · exact bs_lt _ c h
  · exact cat_lt _ c h
theorem bs_rd (f : Fl) : bs (rd f) = rdL f := bs_strOf _ (rdL_lt f)
theorem size_rd (f : Fl) : (rd f).size = f.safe.size + (cat f.ws).length := by unfold rd rdL; rw [size_strOf, List.length_append, length_bs]
theorem rd_safe (s : ByteArray) : rd ⟨s, []⟩ = s := by unfold rd rdL; rw [cat_nil, List.append_nil, strOf_bs]
/-- How many bytes of a write a choice keeps. -/
def kpt (cs : List Int) (i n : Nat) : Nat := if i < cs.length then (min (max 0 (cs.getD i 0)) (n : Int)).toNat else 0
theorem kpt_le (cs : List Int) (i n : Nat) : kpt cs i n ≤ n := by unfold kpt; split <;> omega
/-- What the first i writes leave, and how many noughts stand behind it. -/
def lftN (f : Fl) (cs : List Int) : Nat → List Nat × Nat
  | 0 => (bs f.safe, 0)
  | i + 1 =>
    let w := f.ws.getD i ⟨#[]⟩
    if kpt cs i w.size = 0 then ((lftN f cs i).1, (lftN f cs i).2 + w.size)
    else ((lftN f cs i).1 ++ List.replicate (lftN f cs i).2 0 ++ (bs w).take (kpt cs i w.size), w.size - kpt cs i w.size)
theorem lftN_succ (f : Fl) (cs : List Int) (i : Nat) : lftN f cs (i + 1) = if kpt cs i (f.ws.getD i ⟨#[]⟩).size = 0 then ((lftN f cs i).1, (lftN f cs i).2 + (f.ws.getD i ⟨#[]⟩).size)
    else ((lftN f cs i).1 ++ List.replicate (lftN f cs i).2 0 ++ (bs (f.ws.getD i ⟨#[]⟩)).take (kpt cs i (f.ws.getD i ⟨#[]⟩).size), (f.ws.getD i ⟨#[]⟩).size - kpt cs i (f.ws.getD i ⟨#[]⟩).size) := rfl
def leftL (f : Fl) (cs : List Int) : List Nat := (lftN f cs f.ws.length).1
def left (f : Fl) (cs : List Int) : ByteArray := strOf (leftL f cs)
theorem lftN_len (f : Fl) (cs : List Int) (i : Nat) (h : i ≤ f.ws.length) : (lftN f cs i).1.length + (lftN f cs i).2 = f.safe.size + (cat (f.ws.take i)).length := by
  induction i with
  | zero => simp [lftN, length_bs, cat]
  | succ i ih =>
    have ih := ih (by omega)
    have hc := cat_take_succ f.ws i (by omega)
    have hk := kpt_le cs i (f.ws.getD i ⟨#[]⟩).size
    rw [show (ByteArray.empty : ByteArray) = ⟨#[]⟩ from rfl] at hc
    rw [hc, List.length_append, length_bs]
    unfold lftN
    dsimp only
    split
    · dsimp only; omega
    · dsimp only
      rw [List.length_append, List.length_append, List.length_replicate, List.length_take, length_bs]
      omega
theorem lftN_lt (f : Fl) (cs : List Int) (i : Nat) : ∀ c ∈ (lftN f cs i).1, c < 256 := by
  induction i with
  | zero => exact bs_lt _
  | succ i ih =>
    unfold lftN
    dsimp only
    split
    · exact ih
    · intro c hc
      dsimp only at hc
      rcases List.mem_append.1 hc with h | h
      · rcases List.mem_append.1 h with h | h
        · exact ih c h
        · rw [(List.mem_replicate.1 h).2]; decide
      · exact bs_lt _ c (List.mem_of_mem_take h)
theorem leftL_lt (f : Fl) (cs : List Int) : ∀ c ∈ leftL f cs, c < 256 := lftN_lt f cs _
theorem bs_left (f : Fl) (cs : List Int) : bs (left f cs) = leftL f cs := bs_strOf _ (leftL_lt f cs)
theorem length_leftL (f : Fl) (cs : List Int) : (leftL f cs).length ≤ (rdL f).length := by
  have h := lftN_len f cs f.ws.length (Nat.le_refl _)
  rw [List.take_length] at h
  unfold leftL rdL
  rw [List.length_append, length_bs]
  omega
theorem size_left (f : Fl) (cs : List Int) : (left f cs).size ≤ (rd f).size := by
  unfold left rd; rw [size_strOf, size_strOf]; exact length_leftL f cs
theorem left_nil (s : ByteArray) (cs : List Int) : left ⟨s, []⟩ cs = s := by
  unfold left leftL lftN; exact strOf_bs s
/-- Each byte that is left is the one that was, or a nought. -/
theorem lftN_get (f : Fl) (cs : List Int) (i : Nat) (h : i ≤ f.ws.length) : ∀ j, j < (lftN f cs i).1.length → (lftN f cs i).1.getD j 0 = (rdL f).getD j 0 ∨ (lftN f cs i).1.getD j 0 = 0 := by
  induction i with
  | zero =>
    intro j hj
    refine .inl ?_
    have hj' : j < (bs f.safe).length := hj
    show (bs f.safe).getD j 0 = (bs f.safe ++ cat f.ws).getD j 0
    rw [List.getD_eq_getElem?_getD, List.getD_eq_getElem?_getD, List.getElem?_append_left hj']
  | succ i ih =>
    have ih := ih (by omega)
    have hlen := lftN_len f cs i (by omega)
    intro j
    have hrd : ∀ m, m < (f.ws.getD i ⟨#[]⟩).size → (rdL f).getD (f.safe.size + (cat (f.ws.take i)).length + m) 0 = (bs (f.ws.getD i ⟨#[]⟩)).getD m 0 := by
      intro m hm
      have e : rdL f = (bs f.safe ++ cat (f.ws.take i)) ++ (bs (f.ws.getD i ⟨#[]⟩) ++ cat (f.ws.drop (i + 1))) := by
        have h1 : cat f.ws = cat (f.ws.take (i + 1)) ++ cat (f.ws.drop (i + 1)) := by rw [← cat_append, List.take_append_drop]
        unfold rdL
        rw [h1, cat_take_succ f.ws i (by omega)]
        simp only [List.append_assoc]
        rfl
      rw [e, getD_apr _ _ _ (by rw [List.length_append, length_bs]; omega)]
      rw [show f.safe.size + (cat (f.ws.take i)).length + m - (bs f.safe ++ cat (f.ws.take i)).length = m by rw [List.length_append, length_bs]; omega]
      rw [getD_apl _ _ _ (by rw [length_bs]; exact hm)]
    unfold lftN
    dsimp only
    split
    · exact ih j
    · dsimp only
      intro hj
      rw [List.length_append, List.length_append, List.length_replicate] at hj
      by_cases h1 : j < (lftN f cs i).1.length
      · have e : ((lftN f cs i).1 ++ List.replicate (lftN f cs i).2 0 ++ List.take (kpt cs i (f.ws.getD i ⟨#[]⟩).size) (bs (f.ws.getD i ⟨#[]⟩))).getD j 0 = (lftN f cs i).1.getD j 0 := by
          rw [List.append_assoc, getD_apl _ _ _ h1]
        rw [e]
        exact ih j h1
      · by_cases h2 : j < (lftN f cs i).1.length + (lftN f cs i).2
        · refine .inr ?_
          rw [List.append_assoc, getD_apr _ _ _ (by omega), getD_apl _ _ _ (by rw [List.length_replicate]; omega), List.getD_eq_getElem?_getD, List.getElem?_replicate, if_pos (by omega)]
          rfl
        · refine .inl ?_
          obtain ⟨m, rfl⟩ : ∃ m, j = (lftN f cs i).1.length + (lftN f cs i).2 + m := ⟨j - ((lftN f cs i).1.length + (lftN f cs i).2), by omega⟩
          rw [List.length_take, length_bs] at hj
          rw [hlen, hrd m (by omega)]
          rw [getD_apr _ _ _ (by rw [List.length_append, List.length_replicate]; omega)]
          rw [List.length_append, List.length_replicate, hlen, Nat.add_sub_cancel_left]
          rw [getD_take _ _ _ (by omega)]
theorem left_get (f : Fl) (cs : List Int) (j : Nat) (hj : j < (leftL f cs).length) : (leftL f cs).getD j 0 = (rdL f).getD j 0 ∨ (leftL f cs).getD j 0 = 0 := lftN_get f cs _ (Nat.le_refl _) j hj
/-- The bytes of a file as they stand behind i writes gone over: what is left, noughts, the writes to come. -/
def overL (f : Fl) (cs : List Int) (i : Nat) : List Nat := (lftN f cs i).1 ++ List.replicate (lftN f cs i).2 0 ++ cat (f.ws.drop i)
theorem overL_zero (f : Fl) (cs : List Int) : overL f cs 0 = rdL f := by simp [overL, lftN, rdL]
theorem overL_succ (f : Fl) (cs : List Int) (i : Nat) (h : i < f.ws.length) :
    overL f cs (i + 1) = (lftN f cs i).1 ++ List.replicate (lftN f cs i).2 0 ++ (bs (f.ws.getD i ⟨#[]⟩)).take (kpt cs i (f.ws.getD i ⟨#[]⟩).size) ++ List.replicate ((f.ws.getD i ⟨#[]⟩).size - kpt cs i (f.ws.getD i ⟨#[]⟩).size) 0 ++ cat (f.ws.drop (i + 1)) := by
  unfold overL
  rw [lftN_succ]
  split
  · rename_i h0
    rw [h0]
    simp only [List.take_zero, List.append_nil, Nat.sub_zero, List.append_assoc, ← List.replicate_append_replicate]
  · simp only [List.append_assoc]
theorem overL_step (f : Fl) (cs : List Int) (i : Nat) (h : i < f.ws.length) :
    overL f cs i = (lftN f cs i).1 ++ List.replicate (lftN f cs i).2 0 ++ bs (f.ws.getD i ⟨#[]⟩) ++ cat (f.ws.drop (i + 1)) := by
  have h1 : f.ws.drop i = f.ws.getD i ⟨#[]⟩ :: f.ws.drop (i + 1) := by
    rw [List.drop_eq_getElem_cons h]
    simp [h]
  unfold overL
  rw [h1, cat_cons]
  simp
theorem length_overL (f : Fl) (cs : List Int) (i : Nat) (h : i ≤ f.ws.length) : (overL f cs i).length = (rdL f).length := by
  have h1 := lftN_len f cs i h
  have h2 : (cat f.ws).length = (cat (f.ws.take i)).length + (cat (f.ws.drop i)).length := by rw [← List.length_append, ← cat_append, List.take_append_drop]
  unfold overL rdL
  rw [List.length_append, List.length_append, List.length_append, List.length_replicate, length_bs]
  omega
theorem overL_end (f : Fl) (cs : List Int) : (overL f cs f.ws.length).take (leftL f cs).length = leftL f cs := by
  unfold overL leftL
  rw [List.append_assoc, List.take_left']
  rfl
end Go.Proofs.YtilpbjcbffbjeaaGreatDoor
namespace Go.Proofs.YtilpbjcbffbjeaaGreatDoor
set_option linter.unusedVariables false
set_option linter.unusedSectionVars false
open Go.RowKit
/-- Blocks of a caller's own in which no row of a disk's lies: none, where nothing else is said. -/
class Avoid where
  S : Nat → Prop
  B : Nat
  lt : ∀ k, S k → k < B
instance avoidNone : Avoid := ⟨fun _ => False, 0, fun _ h => h.elim⟩
/-- The blocks of S may have turned, the others have not. -/
structure Chg (S : Nat → Prop) (w w' : World) : Prop where
  os : w'.os = w.os
  tape : w'.tape = w.tape
  output : w'.output = w.output
  size : w.heap.size ≤ w'.heap.size
  block : ∀ k, k < w.heap.size → ¬ S k → w'.heap[k]? = w.heap[k]?
section
variable {S S' : Nat → Prop} {w w' w'' : World}
theorem Chg.refl (S : Nat → Prop) (w : World) : Chg S w w := ⟨rfl, rfl, rfl, Nat.le_refl _, fun _ _ _ => rfl⟩
theorem Chg.trans (h : Chg S w w') (k : Chg S w' w'') : Chg S w w'' :=
  ⟨k.os.trans h.os, k.tape.trans h.tape, k.output.trans h.output, Nat.le_trans h.size k.size, fun i hi hn => (k.block i (Nat.lt_of_lt_of_le hi h.size) hn).trans (h.block i hi hn)⟩
theorem Chg.mono (h : Chg S w w') (hs : ∀ k, k < w.heap.size → S k → S' k) : Chg S' w w' := ⟨h.os, h.tape, h.output, h.size, fun k hk hn => h.block k hk (fun hS => hn (hs k hk hS))⟩
theorem Chg.of_below (S : Nat → Prop) (h : Below w.heap.size w w') : Chg S w w' := ⟨h.os, h.tape, h.output, h.size, fun k hk _ => h.block k hk⟩
theorem Chg.of_grown {g : Nat} (h : w.grownBy w' (some g)) (hg : S g) : Chg S w w' := ⟨h.os, h.tape, h.output, h.size, fun k hk hn => h.block k hk (fun e => hn (by injection e with e; exact e ▸ hg))⟩
theorem Chg.of_none (S : Nat → Prop) (h : w.grownBy w' none) : Chg S w w' := ⟨h.os, h.tape, h.output, h.size, fun k hk _ => h.block k hk (by simp)⟩
theorem Chg.setCell (S : Nat → Prop) (w : World) {g j : Nat} (hg : S g) (v : Value) : Chg S w (w.setCell ⟨g, j, none⟩ v) :=
  ⟨rfl, rfl, rfl, by simp [World.setCell], fun k _ hn => Below.heap_setCell w ⟨g, j, none⟩ v k (fun e => hn (by subst e; exact hg))⟩
theorem Chg.below (h : Chg S w w') {B : Nat} (hB : B ≤ w.heap.size) (hs : ∀ k, k < B → ¬ S k) : Below B w w' := ⟨h.os, h.tape, h.output, h.size, fun k hk => h.block k (Nat.lt_of_lt_of_le hk hB) (hs k hk)⟩
theorem Chg.none (h : Chg (fun _ => False) w w') : Below w.heap.size w w' := h.below (Nat.le_refl _) (fun _ _ => id)
theorem Chg.cell (h : Chg S w w') {p : Addr} {v : Value} (hn : ¬ S p.block) (hc : w.cell? p = some v) : w'.cell? p = some v := (World.cell?_of_block (h.block p.block (block_lt_of_cell hc) hn)).trans hc
end
/-- A block of a type whose blocks nobody writes once they are made. -/
def Fix (T : TypeId) : Prop := T = 9 ∨ T = 3 ∨ T = 34 ∨ T = 129
/-- S's blocks are none of those. -/
def Muts (S : Nat → Prop) (w : World) : Prop := ∀ k, k < w.heap.size → S k → ∀ cur T fr, w.heap[k]? = some (.cells cur T fr) → ¬ Fix T
/-- A slice of elements that nobody writes, in a block of its own. -/
def Row1 [Avoid] (w : World) (T : TypeId) (v : Value) (xs : List Value) : Prop := w.ownsRow 0 T 1 v xs.length xs ∧ ∀ k, v.ownBlock = some k → ¬ Avoid.S k
variable [Avoid]
theorem Row1.keep {S : Nat → Prop} {w w' : World} {T : TypeId} {v : Value} {xs : List Value} (h : Row1 w T v xs) (hc : Chg S w w') (hm : Muts S w) (hT : Fix T) : Row1 w' T v xs := by
  refine ⟨⟨h.1.1, ?_⟩, h.2⟩
  rcases h.1.2 with h1 | ⟨g, cap, cur, hv, hb, hg, h3, h4, h5, h6⟩
  · exact .inl h1
  · have hlt : g < w.heap.size := (Array.getElem?_eq_some_iff.1 hg).1
    exact .inr ⟨g, cap, cur, hv, hb, (hc.block g hlt (fun hS => hm g hlt hS _ _ _ hg hT)).trans hg, h3, h4, h5, h6⟩
theorem Row1.keepT {S : Nat → Prop} {w w' : World} {T : TypeId} {v : Value} {xs : List Value} (h : Row1 w T v xs) (hc : Chg S w w') (hm : ∀ k, k < w.heap.size → S k → ∀ cur fr, w.heap[k]? ≠ some (.cells cur T fr)) : Row1 w' T v xs := by
  refine ⟨⟨h.1.1, ?_⟩, h.2⟩
  rcases h.1.2 with h1 | ⟨g, cap, cur, hv, hb, hg, h3, h4, h5, h6⟩
  · exact .inl h1
  · have hlt : g < w.heap.size := (Array.getElem?_eq_some_iff.1 hg).1
    exact .inr ⟨g, cap, cur, hv, hb, (hc.block g hlt (fun hS => hm g hlt hS _ _ hg)).trans hg, h3, h4, h5, h6⟩
theorem Row1.below {w w' : World} {T : TypeId} {v : Value} {xs : List Value} (h : Row1 w T v xs) (hb : Below w.heap.size w w') : Row1 w' T v xs := by
  refine ⟨⟨h.1.1, ?_⟩, h.2⟩
  rcases h.1.2 with h1 | ⟨g, cap, cur, hv, hb1, hg, h3, h4, h5, h6⟩
  · exact .inl h1
  · exact .inr ⟨g, cap, cur, hv, hb1, (hb.block g (Array.getElem?_eq_some_iff.1 hg).1).trans hg, h3, h4, h5, h6⟩
theorem Row1.form {w : World} {T : TypeId} {v : Value} {xs : List Value} (h : Row1 w T v xs) : ∃ p cap, v = .slice p xs.length cap ∧ xs.length ≤ cap ∧ ∀ i, i < xs.length → ∃ g, p = some ⟨g, 0, none⟩ ∧ w.cell? ⟨g, i, none⟩ = xs[i]? := by
  rcases h.1.2 with ⟨hv, hn⟩ | ⟨g, cap, cur, hv, hb, hg, h3, h4, h5, h6⟩
  · exact ⟨none, 0, by rw [hv, hn], by omega, fun i hi => by omega⟩
  · refine ⟨_, cap, hv, h3, fun i hi => ⟨g, rfl, ?_⟩⟩
    have h7 := World.ownsRow.cellAt (w := w) (base := 0) (e := T) (size := 1) (g := g) (cap := cap) (n := xs.length) (xs := xs) (by rw [← hv]; exact h.1) i (by omega)
    exact h7
theorem Row1.nil (w : World) (T : TypeId) : Row1 w T (.slice none 0 0) [] := ⟨World.ownsRow_nil _ _ _ _, fun k h => by cases h⟩
omit [Avoid] in
theorem Row1.young {A : Avoid} (G : Avoid) {w w' : World} {T : TypeId} {v : Value} {xs : List Value} (h : @Row1 A w T v xs) (hG : ∀ k, G.S k → A.S k ∨ w.heap.size ≤ k) (hb : Below w.heap.size w w') : @Row1 G w' T v xs := by
  refine ⟨(@Row1.below A _ _ _ _ _ h hb).1, fun k hk hS => ?_⟩
  rcases hG k hS with h1 | h1
  · exact h.2 k hk h1
  · have := World.ownsRow.lt h.1 k hk; omega
/-- What is in the avoided blocks may change. -/
theorem Row1.keepG {S : Nat → Prop} {w w' : World} {T : TypeId} {v : Value} {xs : List Value} (h : Row1 w T v xs) (hc : Chg S w w') (hS : ∀ k, S k → Avoid.S k) : Row1 w' T v xs := by
  refine ⟨⟨h.1.1, ?_⟩, h.2⟩
  rcases h.1.2 with h1 | ⟨g, cap, cur, hv, hb, hg, h3, h4, h5, h6⟩
  · exact .inl h1
  · exact .inr ⟨g, cap, cur, hv, hb, (hc.block g (Array.getElem?_eq_some_iff.1 hg).1 (fun e => h.2 g (by rw [hv]; rfl) (hS g e))).trans hg, h3, h4, h5, h6⟩
/-- The value of a slice of strings, in a block of its own. -/
def WS (w : World) (v : Value) (ss : List ByteArray) : Prop := Row1 w 9 v (ss.map Value.string)
theorem WS.keep {S : Nat → Prop} {w w' : World} {v : Value} {ss : List ByteArray} (h : WS w v ss) (hc : Chg S w w') (hm : Muts S w) : WS w' v ss := Row1.keep h hc hm (.inl rfl)
theorem WS.below {w w' : World} {v : Value} {ss : List ByteArray} (h : WS w v ss) (hb : Below w.heap.size w w') : WS w' v ss := Row1.below h hb
theorem WS.nil (w : World) : WS w (.slice none 0 0) [] := Row1.nil _ _
theorem WS.strs {w : World} {v : Value} {ss : List ByteArray} (h : WS w v ss) : Strs w v ss := by
  obtain ⟨p, cap, hv, _, hc⟩ := Row1.form h
  rw [List.length_map] at hv hc
  rw [hv]
  refine Strs.mk fun i hi => ?_
  obtain ⟨g, hp, hcell⟩ := hc i hi
  refine ⟨g, 0, hp, ?_⟩
  rw [Nat.zero_add, hcell, List.getElem?_map, List.getElem?_eq_getElem hi, List.getD_eq_getElem?_getD, List.getElem?_eq_getElem hi]
  rfl
theorem WS.form {w : World} {v : Value} {ss : List ByteArray} (h : WS w v ss) : ∃ p cap, v = .slice p ss.length cap ∧ ss.length ≤ cap := by
  obtain ⟨p, cap, hv, hl, _⟩ := Row1.form h
  rw [List.length_map] at hv hl
  exact ⟨p, cap, hv, hl⟩
theorem WS.parts {w : World} {p : Option Addr} {n cap : Nat} {ss : List ByteArray} (h : WS w (.slice p n cap) ss) : n = ss.length ∧ cap ≤ maxLen ∧ (p = none → n = 0 ∧ cap = 0) ∧
    (∀ b, p = some b → b.block < w.heap.size ∧ ∀ j u, (ss.map Value.string)[j]? = some u → w.cell? (b.add j) = some u) := by
  have h0 := h.1.2
  rw [List.length_map] at h0
  rcases h0 with ⟨hv, hn⟩ | ⟨g, cap', cur, hv, hb, hg, h3, h4, h5, h6⟩
  · injection hv with h1 h2 h3
    subst h1
    exact ⟨by omega, by omega, fun _ => ⟨h2, h3⟩, fun b hb => by cases hb⟩
  · injection hv with h1 h2 h7
    subst h1
    refine ⟨h2, by omega, fun hb => (by cases hb), fun b hb => ?_⟩
    injection hb with hb
    subst hb
    refine ⟨(Array.getElem?_eq_some_iff.1 hg).1, fun j u hu => ?_⟩
    have hj : j < ss.length := by have := (List.getElem?_eq_some_iff.1 hu).1; simpa using this
    have h8 := World.ownsRow.cellAt (w := w) (base := 0) (e := 9) (size := 1) (g := g) (cap := cap') (n := (ss.map Value.string).length) (xs := ss.map Value.string) (by
      have h9 := h.1
      rw [h7, h2] at h9
      rw [List.length_map] at h9 ⊢
      exact h9) j (by rw [List.length_map]; omega)
    rw [show (⟨g, 0, none⟩ : Addr).add j = ⟨g, j, none⟩ by unfold Addr.add; split <;> simp_all, h8, hu]
/-- The value of a slice of ints, in a block of its own. -/
def WI (w : World) (v : Value) (zs : List Int) : Prop := Row1 w 3 v (zs.map (Value.int .i64))
theorem WI.ints {w : World} {v : Value} {zs : List Int} (h : WI w v zs) : Ints w v zs := by
  obtain ⟨p, cap, hv, _, hc⟩ := Row1.form h
  rw [List.length_map] at hv hc
  rw [hv]
  refine Ints.mk fun i hi => ?_
  obtain ⟨g, hp, hcell⟩ := hc i hi
  refine ⟨g, 0, hp, ?_⟩
  rw [Nat.zero_add, hcell, List.getElem?_map, List.getElem?_eq_getElem hi, List.getD_eq_getElem?_getD, List.getElem?_eq_getElem hi]
  rfl
theorem Ints.nil (w : World) : Ints w (.slice none 0 0) [] := Ints.mk (p := none) (cap := 0) (zs := []) (fun i hi => absurd hi (Nat.not_lt_zero _))
theorem Ints.keep {S : Nat → Prop} {w w' : World} {v : Value} {zs : List Int} (h : Ints w v zs) (hc : Chg S w w') {B : Nat} (hB : ∀ k, S k → B ≤ k) (hb : ∀ p n c, v = .slice (some p) n c → p.block < B) : Ints w' v zs := by
  obtain ⟨p, cap, rfl, hcell⟩ := h.form
  refine Ints.mk fun i hi => ?_
  obtain ⟨b, off, rfl, h1⟩ := hcell i hi
  exact ⟨b, off, rfl, hc.cell (fun hS => by have := hB _ hS; have := hb _ _ _ rfl; simp at *; omega) h1⟩
/-- The value of a slice of slices of ints, as it is read. -/
def Rss (w : World) (v : Value) (css : List (List Int)) : Prop :=
  ∃ p cap, v = .slice p css.length cap ∧ ∀ i, i < css.length → ∃ b off u, p = some ⟨b, off, none⟩ ∧ w.cell? ⟨b, off + i, none⟩ = some u ∧ Ints w u (css.getD i [])
theorem Rss.below {w w' : World} {v : Value} {css : List (List Int)} (h : Rss w v css) (hb : Below w.heap.size w w') : Rss w' v css := by
  obtain ⟨p, cap, rfl, hc⟩ := h
  refine ⟨p, cap, rfl, fun i hi => ?_⟩
  obtain ⟨b, off, u, rfl, hcell, hi2⟩ := hc i hi
  exact ⟨b, off, u, rfl, (hb.cell (block_lt_of_cell hcell)).trans hcell, hi2.below hb⟩
theorem Rss.nil (w : World) : Rss w (.slice none 0 0) [] := ⟨none, 0, rfl, fun i hi => absurd hi (Nat.not_lt_zero _)⟩
/-- The value of a slice of slices of ints, all in blocks of their own. -/
def WCs (w : World) (v : Value) (css : List (List Int)) : Prop :=
  ∃ us : List Value, us.length = css.length ∧ Row1 w 34 v us ∧ ∀ i, i < css.length → WI w (us.getD i (.slice none 0 0)) (css.getD i [])
theorem WCs.keep {S : Nat → Prop} {w w' : World} {v : Value} {css : List (List Int)} (h : WCs w v css) (hc : Chg S w w') (hm : Muts S w) : WCs w' v css := by
  obtain ⟨us, hl, hr, hi⟩ := h
  exact ⟨us, hl, hr.keep hc hm (.inr (.inr (.inl rfl))), fun i h => Row1.keep (hi i h) hc hm (.inr (.inl rfl))⟩
theorem WCs.nil (w : World) : WCs w (.slice none 0 0) [] := ⟨[], rfl, Row1.nil _ _, fun i hi => absurd hi (Nat.not_lt_zero _)⟩
theorem WCs.rss {w : World} {v : Value} {css : List (List Int)} (h : WCs w v css) : Rss w v css := by
  obtain ⟨us, hl, hr, hi⟩ := h
  obtain ⟨p, cap, hv, _, hc⟩ := hr.form
  rw [hl] at hv hc
  refine ⟨p, cap, hv, fun i h => ?_⟩
  obtain ⟨g, hp, hcell⟩ := hc i h
  refine ⟨g, 0, us.getD i (.slice none 0 0), hp, ?_, (hi i h).ints⟩
  rw [Nat.zero_add, hcell, List.getD_eq_getElem?_getD, List.getElem?_eq_getElem (by omega)]
  rfl
/-- The files of a disk, in a block of their own. -/
structure FilesAt (w : World) (g cap : Nat) (l : List Fl) : Prop where
  blk : ∃ cur, w.heap[g]? = some (.cells cur 97 (0, 0)) ∧ cur.size = cap * 2
  capm : cap ≤ maxLen
  len : l.length ≤ cap
  safe : ∀ i, i < l.length → w.cell? ⟨g, i * 2, none⟩ = some (.string (l.getD i Fl.zero).safe)
  ws : ∀ i, i < l.length → ∃ v, w.cell? ⟨g, i * 2 + 1, none⟩ = some v ∧ WS w v (l.getD i Fl.zero).ws
section
variable {S : Nat → Prop} {w w' : World} {g cap : Nat} {l : List Fl}
theorem FilesAt.lt (h : FilesAt w g cap l) : g < w.heap.size := by obtain ⟨cur, hg, _⟩ := h.blk; exact (Array.getElem?_eq_some_iff.1 hg).1
theorem FilesAt.free (h : FilesAt w g cap l) (j : Nat) : w.frozen? ⟨g, j, none⟩ = false := by obtain ⟨cur, hg, _⟩ := h.blk; exact frozen_of_row w g j cur _ hg
theorem FilesAt.keep (h : FilesAt w g cap l) (hc : Chg S w w') (hg : ¬ S g) (hm : Muts S w) : FilesAt w' g cap l := by
  obtain ⟨cur, hb, hs⟩ := h.blk
  refine ⟨⟨cur, (hc.block g h.lt hg).trans hb, hs⟩, h.capm, h.len, fun i hi => hc.cell hg (h.safe i hi), fun i hi => ?_⟩
  obtain ⟨v, h1, h2⟩ := h.ws i hi
  exact ⟨v, hc.cell hg h1, h2.keep hc hm⟩
theorem muts_none (w : World) : Muts (fun _ => False) w := fun _ _ h => h.elim
theorem FilesAt.below (h : FilesAt w g cap l) (hb : Below w.heap.size w w') : FilesAt w' g cap l := h.keep (Chg.of_below (fun _ => False) hb) id (muts_none w)
theorem FilesAt.muts (h : FilesAt w g cap l) : Muts (fun k => k = g) w := by
  intro k _ hk cur T fr hb
  obtain ⟨cur', hg, _⟩ := h.blk
  subst hk
  rw [hg] at hb
  injection hb with hb
  injection hb with _ hT _
  subst hT
  unfold Fix
  decide
theorem FilesAt.there (h : FilesAt w g cap l) {j : Nat} (hj : j < l.length * 2) : (w.cell? ⟨g, j, none⟩).isSome = true := by
  obtain ⟨cur, hg, hs⟩ := h.blk
  have := h.len
  rw [cell_of_row w g j cur _ _ hg, Array.getElem?_eq_getElem (by omega)]
  rfl
theorem getD_set_self {α : Type} (l : List α) (i : Nat) (x d : α) (h : i < l.length) : (l.set i x).getD i d = x := by simp [List.getD_eq_getElem?_getD, h]
theorem getD_set_ne {α : Type} (l : List α) (i j : Nat) (x d : α) (h : i ≠ j) : (l.set i x).getD j d = l.getD j d := by simp [List.getD_eq_getElem?_getD, h]
theorem FilesAt.mkSet (h : FilesAt w g cap l) {f : Nat} (hf : f < l.length) (x : Fl) (hb : ∃ cur, w'.heap[g]? = some (.cells cur 97 (0, 0)) ∧ cur.size = cap * 2) (hc : Chg (fun k => k = g) w w')
    (h1 : w'.cell? ⟨g, f * 2, none⟩ = some (.string x.safe)) (h2 : ∃ v, w'.cell? ⟨g, f * 2 + 1, none⟩ = some v ∧ WS w' v x.ws)
    (h3 : ∀ j, j ≠ f * 2 → j ≠ f * 2 + 1 → w'.cell? ⟨g, j, none⟩ = w.cell? ⟨g, j, none⟩) : FilesAt w' g cap (l.set f x) := by
  refine ⟨hb, h.capm, by rw [List.length_set]; exact h.len, fun i hi => ?_, fun i hi => ?_⟩
  · rw [List.length_set] at hi
    by_cases e : f = i
    · subst e; rw [getD_set_self _ _ _ _ hf]; exact h1
    · rw [getD_set_ne _ _ _ _ _ e, h3 _ (by omega) (by omega)]; exact h.safe i hi
  · rw [List.length_set] at hi
    by_cases e : f = i
    · subst e; rw [getD_set_self _ _ _ _ hf]; exact h2
    · rw [getD_set_ne _ _ _ _ _ e, h3 _ (by omega) (by omega)]
      obtain ⟨v, hv, hw⟩ := h.ws i hi
      exact ⟨v, hv, hw.keep hc h.muts⟩
theorem setCell_blk (w : World) (g j : Nat) (v : Value) {cur : Array Value} {T : TypeId} (h : w.heap[g]? = some (.cells cur T (0, 0))) : (w.setCell ⟨g, j, none⟩ v).heap[g]? = some (.cells (cur.setIfInBounds j v) T (0, 0)) := by
  simp [World.setCell, Array.getElem?_modify, h]
theorem FilesAt.setWs (h : FilesAt w g cap l) {f : Nat} (hf : f < l.length) {v : Value} {ws : List ByteArray} (hv : WS w v ws) : FilesAt (w.setCell ⟨g, f * 2 + 1, none⟩ v) g cap (l.set f ⟨(l.getD f Fl.zero).safe, ws⟩) := by
  have hc : Chg (fun k => k = g) w (w.setCell ⟨g, f * 2 + 1, none⟩ v) := Chg.setCell (fun k => k = g) w rfl v
  obtain ⟨u, hu, _⟩ := h.ws f hf
  refine h.mkSet hf _ ?_ hc ?_ ⟨v, World.cell?_setCell_same _ _ _ hu, hv.keep hc h.muts⟩ (fun j _ hj => World.cell?_setCell_other _ _ _ _ (by intro e; injection e with _ e; exact hj e.symm))
  · obtain ⟨cur, hg, hs⟩ := h.blk
    exact ⟨_, setCell_blk w g _ v hg, by rw [Array.size_setIfInBounds]; exact hs⟩
  · rw [World.cell?_setCell_other _ _ _ _ (by intro e; injection e with _ e; omega)]; exact h.safe f hf
theorem FilesAt.setSafe (h : FilesAt w g cap l) {f : Nat} (hf : f < l.length) (s : ByteArray) : FilesAt (w.setCell ⟨g, f * 2, none⟩ (.string s)) g cap (l.set f ⟨s, (l.getD f Fl.zero).ws⟩) := by
  have hc : Chg (fun k => k = g) w (w.setCell ⟨g, f * 2, none⟩ (.string s)) := Chg.setCell (fun k => k = g) w rfl _
  obtain ⟨u, hu, hw⟩ := h.ws f hf
  refine h.mkSet hf _ ?_ hc (World.cell?_setCell_same _ _ _ (h.safe f hf)) ⟨u, ?_, hw.keep hc h.muts⟩ (fun j hj _ => World.cell?_setCell_other _ _ _ _ (by intro e; injection e with _ e; exact hj e.symm))
  · obtain ⟨cur, hg, hs⟩ := h.blk
    exact ⟨_, setCell_blk w g _ _ hg, by rw [Array.size_setIfInBounds]; exact hs⟩
  · rw [World.cell?_setCell_other _ _ _ _ (by intro e; injection e with _ e; omega)]; exact hu
theorem FilesAt.setBoth (h : FilesAt w g cap l) {f : Nat} (hf : f < l.length) (s : ByteArray) : FilesAt ((w.setCell ⟨g, f * 2, none⟩ (.string s)).setCell ⟨g, f * 2 + 1, none⟩ (.slice none 0 0)) g cap (l.set f ⟨s, []⟩) := by
  have h1 := (h.setSafe hf s).setWs (f := f) (by rw [List.length_set]; exact hf) (WS.nil _)
  rw [List.set_set, getD_set_self _ _ _ _ hf] at h1
  exact h1
end
/-- A disk's state. -/
structure Dk where
  l : List Fl
  armed : Nat
  ch : List (List Int)
  dead : Bool
/-- A disk: its own cells in block b, its files in block g. -/
structure IsDisk (w : World) (b g cap : Nat) (D : Dk) : Prop where
  blk : ∃ cv, w.heap[b]? = some (.cells #[.slice (some ⟨g, 0, none⟩) D.l.length cap, .int .i64 (D.armed : Nat), cv, .bool D.dead] 95 (0, 0)) ∧ WCs w cv D.ch
  fs : FilesAt w g cap D.l
  gb : Avoid.B ≤ w.heap.size
section
variable {S : Nat → Prop} {w w' : World} {b g cap : Nat} {D : Dk}
theorem IsDisk.lt (h : IsDisk w b g cap D) : b < w.heap.size := by obtain ⟨cv, hb, _⟩ := h.blk; exact (Array.getElem?_eq_some_iff.1 hb).1
theorem IsDisk.ne (h : IsDisk w b g cap D) : b ≠ g := by
  obtain ⟨cv, hb, _⟩ := h.blk
  obtain ⟨cur, hg, _⟩ := h.fs.blk
  rintro rfl
  rw [hb] at hg
  injection hg with hg
  injection hg with _ hT _
  exact absurd hT (by decide)
theorem IsDisk.keep (h : IsDisk w b g cap D) (hc : Chg S w w') (hb : ¬ S b) (hg : ¬ S g) (hm : Muts S w) : IsDisk w' b g cap D := by
  obtain ⟨cv, h1, h2⟩ := h.blk
  exact ⟨⟨cv, (hc.block b h.lt hb).trans h1, h2.keep hc hm⟩, h.fs.keep hc hg hm, Nat.le_trans h.gb hc.size⟩
theorem IsDisk.below (h : IsDisk w b g cap D) (hb : Below w.heap.size w w') : IsDisk w' b g cap D := h.keep (Chg.of_below (fun _ => False) hb) id id (muts_none w)
theorem IsDisk.muts (h : IsDisk w b g cap D) : Muts (fun k => k = b ∨ k = g) w := by
  intro k hk hS cur T fr hh
  rcases hS with rfl | rfl
  · obtain ⟨cv, h1, _⟩ := h.blk
    rw [h1] at hh
    injection hh with hh
    injection hh with _ hT _
    subst hT
    unfold Fix
    decide
  · exact h.fs.muts k hk rfl cur T fr hh
theorem IsDisk.cells (h : IsDisk w b g cap D) : w.cell? ⟨b, 0, none⟩ = some (.slice (some ⟨g, 0, none⟩) D.l.length cap) ∧ w.cell? ⟨b, 1, none⟩ = some (.int .i64 (D.armed : Nat)) ∧
    (∃ cv, w.cell? ⟨b, 2, none⟩ = some cv ∧ WCs w cv D.ch) ∧ w.cell? ⟨b, 3, none⟩ = some (.bool D.dead) := by
  obtain ⟨cv, h1, h2⟩ := h.blk
  exact ⟨cell_of_row w b 0 _ _ _ h1, cell_of_row w b 1 _ _ _ h1, ⟨cv, cell_of_row w b 2 _ _ _ h1, h2⟩, cell_of_row w b 3 _ _ _ h1⟩
theorem IsDisk.free (h : IsDisk w b g cap D) (j : Nat) : w.frozen? ⟨b, j, none⟩ = false := by obtain ⟨cv, hb, _⟩ := h.blk; exact frozen_of_row w b j _ _ hb
/-- The files have turned, or what is new has come. -/
theorem IsDisk.files (h : IsDisk w b g cap D) (hc : Chg (fun k => k = g) w w') {l' : List Fl} (hf : FilesAt w' g cap l') (hl : l'.length = D.l.length) : IsDisk w' b g cap ⟨l', D.armed, D.ch, D.dead⟩ := by
  obtain ⟨cv, h1, h2⟩ := h.blk
  exact ⟨⟨cv, by rw [hl]; exact (hc.block b h.lt h.ne).trans h1, h2.keep hc h.fs.muts⟩, hf, Nat.le_trans h.gb hc.size⟩
theorem muts_blk {w : World} {b : Nat} {cs : Array Value} (h : w.heap[b]? = some (.cells cs 95 (0, 0))) : Muts (fun k => k = b) w := by
  intro k _ hS cur T fr hh
  subst hS
  rw [h] at hh
  injection hh with hh
  injection hh with _ hT _
  subst hT
  unfold Fix
  decide
theorem IsDisk.setArmed (h : IsDisk w b g cap D) (n : Nat) : IsDisk (w.setCell ⟨b, 1, none⟩ (.int .i64 (n : Nat))) b g cap ⟨D.l, n, D.ch, D.dead⟩ := by
  obtain ⟨cv, h1, h2⟩ := h.blk
  have hc : Chg (fun k => k = b) w (w.setCell ⟨b, 1, none⟩ (.int .i64 (n : Nat))) := Chg.setCell (fun k => k = b) w rfl _
  exact ⟨⟨cv, setCell_blk w b 1 _ h1, h2.keep hc (muts_blk h1)⟩, h.fs.keep hc (Ne.symm h.ne) (muts_blk h1), Nat.le_trans h.gb hc.size⟩
theorem IsDisk.setDead (h : IsDisk w b g cap D) (d : Bool) : IsDisk (w.setCell ⟨b, 3, none⟩ (.bool d)) b g cap ⟨D.l, D.armed, D.ch, d⟩ := by
  obtain ⟨cv, h1, h2⟩ := h.blk
  have hc : Chg (fun k => k = b) w (w.setCell ⟨b, 3, none⟩ (.bool d)) := Chg.setCell (fun k => k = b) w rfl _
  exact ⟨⟨cv, setCell_blk w b 3 _ h1, h2.keep hc (muts_blk h1)⟩, h.fs.keep hc (Ne.symm h.ne) (muts_blk h1), Nat.le_trans h.gb hc.size⟩
theorem IsDisk.setCh (h : IsDisk w b g cap D) {cv : Value} {ch : List (List Int)} (hv : WCs w cv ch) : IsDisk (w.setCell ⟨b, 2, none⟩ cv) b g cap ⟨D.l, D.armed, ch, D.dead⟩ := by
  obtain ⟨cv', h1, h2⟩ := h.blk
  have hc : Chg (fun k => k = b) w (w.setCell ⟨b, 2, none⟩ cv) := Chg.setCell (fun k => k = b) w rfl _
  exact ⟨⟨cv, setCell_blk w b 2 _ h1, hv.keep hc (muts_blk h1)⟩, h.fs.keep hc (Ne.symm h.ne) (muts_blk h1), Nat.le_trans h.gb hc.size⟩
theorem WCs.keepG {v : Value} {css : List (List Int)} (h : WCs w v css) (hc : Chg S w w') (hS : ∀ k, S k → Avoid.S k) : WCs w' v css := by
  obtain ⟨us, hl, hr, hi⟩ := h
  exact ⟨us, hl, hr.keepG hc hS, fun i h => Row1.keepG (hi i h) hc hS⟩
omit [Avoid] in
theorem WCs.young {A : Avoid} (G : Avoid) {v : Value} {css : List (List Int)} (h : @WCs A w v css) (hG : ∀ k, G.S k → A.S k ∨ w.heap.size ≤ k) (hb : Below w.heap.size w w') : @WCs G w' v css := by
  obtain ⟨us, hl, hr, hi⟩ := h
  exact ⟨us, hl, Row1.young G hr hG hb, fun i h => Row1.young G (hi i h) hG hb⟩
/-- What is in the avoided blocks may change. -/
theorem IsDisk.keepG (h : IsDisk w b g cap D) (hc : Chg S w w') (hb : ¬ S b) (hg : ¬ S g) (hS : ∀ k, S k → Avoid.S k) : IsDisk w' b g cap D := by
  obtain ⟨cv, h1, h2⟩ := h.blk
  obtain ⟨cur, hbb, hs⟩ := h.fs.blk
  refine ⟨⟨cv, (hc.block b h.lt hb).trans h1, h2.keepG hc hS⟩, ⟨⟨cur, (hc.block g h.fs.lt hg).trans hbb, hs⟩, h.fs.capm, h.fs.len, fun i hi => hc.cell hg (h.fs.safe i hi), fun i hi => ?_⟩, Nat.le_trans h.gb hc.size⟩
  obtain ⟨v, h3, h4⟩ := h.fs.ws i hi
  exact ⟨v, hc.cell hg h3, Row1.keepG h4 hc hS⟩
omit [Avoid] in
theorem IsDisk.young {A : Avoid} (G : Avoid) (h : @IsDisk A w b g cap D) (hG : ∀ k, G.S k → A.S k ∨ w.heap.size ≤ k) (hb : Below w.heap.size w w') (hB : G.B ≤ w'.heap.size) : @IsDisk G w' b g cap D := by
  have hgl := @FilesAt.lt A _ _ _ _ (@IsDisk.fs A _ _ _ _ _ h)
  have hbl := @IsDisk.lt A _ _ _ _ _ h
  obtain ⟨⟨cv, h1, h2⟩, ⟨⟨cur, hbb, hs⟩, hcm, hln, hsf, hws⟩, _⟩ := h
  refine @IsDisk.mk G _ _ _ _ _ ⟨cv, (hb.block b hbl).trans h1, WCs.young G h2 hG hb⟩ (@FilesAt.mk G _ _ _ _ ⟨cur, (hb.block g hgl).trans hbb, hs⟩ hcm hln (fun i hi => (hb.cell (p := ⟨g, i * 2, none⟩) hgl).trans (hsf i hi)) (fun i hi => ?_)) hB
  obtain ⟨v, h3, h4⟩ := hws i hi
  exact ⟨v, (hb.cell (p := ⟨g, i * 2 + 1, none⟩) hgl).trans h3, Row1.young G h4 hG hb⟩
end
end Go.Proofs.YtilpbjcbffbjeaaGreatDoor
namespace Go.Proofs.YtilpbjcbffbjeaaGreatDoor
open Go.RowKit
/-- v holds the bytes l, from the head of a block from base on, and may be written as far as its capacity. -/
structure LooseAt (w : World) (base g cap : Nat) (l : List Nat) : Prop where
  b : base ≤ g
  n : l.length ≤ cap
  cells : ∀ j, j < l.length → w.cell? ⟨g, j, none⟩ = some (.int .u8 (l.getD j 0 : Nat))
  room : ∀ j, j < cap → (w.cell? ⟨g, j, none⟩).isSome = true
  free : ∀ j, j < cap → w.frozen? ⟨g, j, none⟩ = false
  lt : g < w.heap.size
def Loose (w : World) (base : Nat) (v : Value) (l : List Nat) : Prop := ∃ g cap, v = .slice (some ⟨g, 0, none⟩) l.length cap ∧ LooseAt w base g cap l
section
variable {w w' : World} {base g cap : Nat} {v : Value} {l : List Nat}
theorem LooseAt.grown (h : LooseAt w base g cap l) {r : Option Nat} (hg : w.grownBy w' r) (hr : r ≠ some g) : LooseAt w' base g cap l := by
  have e := hg.block g h.lt (fun e => hr e.symm)
  have ec : ∀ j, w'.cell? ⟨g, j, none⟩ = w.cell? ⟨g, j, none⟩ := fun j => by unfold World.cell?; rw [e]
  have ef : ∀ j, w'.frozen? ⟨g, j, none⟩ = w.frozen? ⟨g, j, none⟩ := fun j => by unfold World.frozen?; rw [e]
  exact ⟨h.b, h.n, fun j hj => by rw [ec]; exact h.cells j hj, fun j hj => by rw [ec]; exact h.room j hj, fun j hj => by rw [ef]; exact h.free j hj, Nat.lt_of_lt_of_le h.lt hg.size⟩
theorem Loose.grown (h : Loose w base v l) {r : Option Nat} (hg : w.grownBy w' r) (hr : v.ownBlock ≠ r) : Loose w' base v l := by
  obtain ⟨g, cap, rfl, h⟩ := h
  exact ⟨g, cap, rfl, h.grown hg (fun e => hr e.symm)⟩
theorem Loose.below (h : Loose w base v l) (hb : Below w.heap.size w w') : Loose w' base v l := by
  obtain ⟨g, cap, rfl, h⟩ := h
  exact ⟨g, cap, rfl, h.grown (r := none) ⟨hb.os, hb.tape, hb.output, hb.size, fun k hk _ => hb.block k hk⟩ (by simp)⟩
theorem Loose.alloc (h : Loose w base v l) (o : Obj) : Loose (w.alloc o) base v l := h.below ((Below.refl _ _).alloc (Nat.le_refl _) o)
theorem Loose.block (h : Loose w base v l) {k : Nat} (hk : v.ownBlock = some k) : base ≤ k ∧ k < w.heap.size := by
  obtain ⟨g, cap, rfl, h⟩ := h
  simp only [Value.ownBlock, Option.some.injEq] at hk
  subst hk
  exact ⟨h.b, h.lt⟩
theorem Owns.loose (h : Owns w base 5 v l) (h0 : 0 < l.length) : Loose w base v l := by
  rcases h.2 with ⟨_, hn⟩ | ⟨g, cap, cur, rfl, hb, hg, hnc, hcm, hcs, htake⟩
  · omega
  · have hc : ∀ j, w.cell? ⟨g, j, none⟩ = cur[j]? := fun j => cell_of_row w g j cur 5 _ hg
    refine ⟨g, cap, rfl, hb, hnc, fun j hj => ?_, fun j hj => ?_, fun j hj => frozen_of_row w g j cur 5 hg, (Array.getElem?_eq_some_iff.1 hg).1⟩
    · have h1 := World.ownsRow.cellAt (w := w) (base := base) (e := 5) (size := 1) (g := g) (cap := cap) (n := l.length) (xs := nums .u8 l) h j (by omega)
      rw [h1]
      simp [nums, hj]
    · rw [hc, Array.getElem?_eq_getElem (by omega)]; rfl
/-- []byte(s). -/
theorem loose_bytes (w : World) (s : ByteArray) : Loose (Lib.bytesWorld w 5 s) w.heap.size (.slice (some ⟨w.heap.size, 0, none⟩) s.size (grownCap w s.size 0 5)) (bs s) := by
  have hge := grownCap_ge w s.size 0 5
  have hsz : (Lib.bytesCells w 5 s).size = grownCap w s.size 0 5 := by
    simp only [Lib.bytesCells, Array.size_append, Array.size_map, Array.size_replicate]
    have : s.data.size = s.size := rfl
    omega
  have hat := Lib.bytesWorld_at_new w 5 s
  refine ⟨_, _, by rw [length_bs], Nat.le_refl _, by rw [length_bs]; exact hge, fun j hj => ?_, fun j hj => ?_, fun j hj => ?_, by rw [Lib.bytesWorld_size]; omega⟩
  · rw [length_bs] at hj
    rw [Lib.bytesWorld_cell w 5 s j hj]
    have : j < s.data.size := hj
    have e : s.data[j]? = some s.data[j] := Array.getElem?_eq_getElem this
    simp [bs, List.getD_eq_getElem?_getD, e]
  · rw [cell_of_row _ _ j _ 5 _ hat, Array.getElem?_eq_getElem (by omega)]; rfl
  · unfold World.frozen?
    rw [hat]
    simp
    omega
end
theorem grownBy_setCells (g : Nat) : ∀ (vs : List Value) (o : Nat) (w : World), w.grownBy (w.setCells g o vs) (some g)
  | [], _, w => ⟨rfl, rfl, rfl, Nat.le_refl _, fun _ _ _ => rfl⟩
  | v :: r, o, w => by
    have h := grownBy_setCells g r (o + 1) (w.setCell ⟨g, o, none⟩ v)
    have hs : (w.setCell ⟨g, o, none⟩ v).heap.size = w.heap.size := by simp [World.setCell]
    refine ⟨h.os, h.tape, h.output, by have := h.size; rw [hs] at this; exact this, fun k hk hne => ?_⟩
    exact (h.block k (by omega) hne).trans (heap_setCell_other w _ k v (fun e => hne (by rw [e])))
/-- append of bytes, to bytes. -/
theorem wpList_append_loose {P : Program} {ops : Array Oper} {rest : List Oper} {o : Oper} {a : Act} {w : World} {Q : Exit → Act → World → Prop} {base : Nat} {v : Value} {l : List Nat}
    (hgd : o.guard = none) (s x : Operand) (t : TypeId) (ho : o.op = .call { callee := .builtin .append, args := #[s, x], argTypes := #[t, t] })
    (ht : P.underlying t = some (.slice 5)) (hi : (P.info? 5).map (fun i => (i.zero, i.size, i.bytes)) = some (some (.int .u8 0), 1, 1))
    (hs : a.eval s = v) (hown : Loose w base v l) (ad : Addr) (m c : Nat) (news : List Nat) (hx : a.eval x = .slice (some ad) m c) (hm : news.length = m) (hm0 : 0 < m)
    (hnews : ∀ j, j < m → w.cell? (ad.add j) = some (.int .u8 (news.getD j 0 : Nat))) (hsz : l.length + m ≤ 140737488355328) (hbase : base ≤ w.heap.size)
    (h : ∀ v' w', Loose w' base v' (l ++ news) → w.grownBy w' v.ownBlock → (v'.ownBlock = v.ownBlock ∨ ∃ k, v'.ownBlock = some k ∧ w.heap.size ≤ k) → wpList P ops Q rest (a.put o.dst v') w') : wpList P ops Q (o :: rest) a w := by
  obtain ⟨i0, hi0, hz0, hz1, hz2⟩ := info_parts hi
  obtain ⟨g, cap, rfl, hl⟩ := hown
  have hoc : ∀ (l : List Nat) (b : Nat), (∀ j, j < l.length → w.cell? ⟨g, b + j, none⟩ = some (.int .u8 (l.getD j 0 : Nat))) → ∀ j u, (nums .u8 l)[j]? = some u → w.cell? ⟨g, b + j, none⟩ = some u := by
    intro l b hc j u hu
    have hj : j < l.length := by rw [← length_nums .u8 l]; exact (List.getElem?_eq_some_iff.1 hu).1
    rw [hc j hj, ← hu]; simp [nums, hj]
  refine wpList_append_arg w hgd s x t ho 5 i0 (.int .u8 0) 1 1 ht hi0 hz0 hz1 hz2 rfl (by decide) g 0 l.length cap (nums .u8 l) hs (by rw [length_nums]; omega) (hoc l 0 (fun j hj => by rw [Nat.zero_add]; exact hl.cells j hj)) ad m c (nums .u8 news) hx (by rw [length_nums]; omega)
    (fun j u hu => by
      have hj : j < news.length := by rw [← length_nums .u8 news]; exact (List.getElem?_eq_some_iff.1 hu).1
      rw [hnews j (by omega), ← hu]; simp [nums, hj]) (oneCell_nums .u8 news) (fun hr j hj => by
      rw [length_nums] at hj
      exact ⟨hl.room _ (by omega), hl.free _ (by omega)⟩) (by unfold maxLen; omega) (by omega) (fun hr => ?_) (fun hg v' w' h1 h2 => ?_)
  · have hin : ∀ j, j < (nums .u8 news).length → (w.cell? ⟨g, (0 + l.length * 1) + j, none⟩).isSome = true := fun j hj => hl.room _ (by rw [length_nums] at hj; omega)
    have hgr := grownBy_setCells g (nums .u8 news) (0 + l.length * 1) w
    have hv := h (.slice (some ⟨g, 0, none⟩) (l ++ news).length cap) _ ⟨g, cap, rfl, hl.b, by rw [List.length_append]; omega, fun j hj => ?_, fun j hj => ?_, fun j hj => by rw [World.frozen?_setCells]; exact hl.free j hj, Nat.lt_of_lt_of_le hl.lt hgr.size⟩ hgr (.inl rfl)
    · rw [List.length_append, hm] at hv
      exact hv
    · rw [List.length_append] at hj
      by_cases h1 : j < l.length
      · rw [World.cell?_setCells_out g _ _ _ _ (fun _ _ => .inl (by show j < _; omega)), hl.cells j h1, List.getD_eq_getElem?_getD, List.getD_eq_getElem?_getD, List.getElem?_append_left h1]
      · have h2 : j = (0 + l.length * 1) + (j - l.length) := by omega
        have h3 : j - l.length < (nums .u8 news).length := by rw [length_nums]; omega
        have h4 := World.cell?_setCells_in g (nums .u8 news) (0 + l.length * 1) w hin (j - l.length) h3
        rw [← h2] at h4
        rw [h4, List.getD_eq_getElem?_getD, List.getElem?_append_right (by omega)]
        have h5 : j - l.length < news.length := by omega
        simp [nums, h5]
    · by_cases h1 : j < l.length
      · rw [World.cell?_setCells_out g _ _ _ _ (fun _ _ => .inl (by show j < _; omega))]; exact hl.room j hj
      · by_cases h2 : j < l.length + news.length
        · have e2 : j = (0 + l.length * 1) + (j - l.length) := by omega
          have h3 : j - l.length < (nums .u8 news).length := by rw [length_nums]; omega
          have h4 := World.cell?_setCells_in g (nums .u8 news) (0 + l.length * 1) w hin (j - l.length) h3
          rw [← e2] at h4
          rw [h4]; rfl
        · rw [World.cell?_setCells_out g _ _ _ _ (fun _ _ => .inr (by show _ ≤ j; rw [length_nums]; omega))]; exact hl.room j hj
  · refine h v' w' ?_ ⟨h2.os, h2.tape, h2.output, h2.size, fun k hk _ => h2.block k hk (by simp)⟩ ?_
    · have h3 : Owns w' w.heap.size 5 v' (l ++ news) := by
        unfold Owns
        rw [List.length_append, hm]
        have : nums .u8 (l ++ news) = nums .u8 l ++ nums .u8 news := by simp [nums]
        rw [this]; exact h1
      obtain ⟨g', cap', rfl, h4⟩ := h3.loose (by rw [List.length_append]; omega)
      exact ⟨g', cap', rfl, ⟨Nat.le_trans hbase h4.b, h4.n, h4.cells, h4.room, h4.free, h4.lt⟩⟩
    · obtain ⟨k, hk⟩ : ∃ k, v'.ownBlock = some k := by
        rcases h1.2 with ⟨_, hn⟩ | ⟨g', cap', cur, rfl, _⟩
        · omega
        · exact ⟨g', rfl⟩
      exact .inr ⟨k, hk, (World.ownsRow.lt h1 k hk).1⟩
/-- []byte(s), at the operation. -/
theorem wpList_string_bytes {P : Program} {ops : Array Oper} {rest : List Oper} {o : Oper} {a : Act} {w : World} {Q : Exit → Act → World → Prop} (hgd : o.guard = none) (src dst : TypeId) (x : Operand) (ho : o.op = .convert src dst x)
    (hs : P.underlying src = some .string) (hd : P.underlying dst = some (.slice 5)) (he : P.underlying 5 = some (.int .u8)) (s : ByteArray) (hx : a.eval x = .string s)
    (h : ∀ v' w', Loose w' w.heap.size v' (bs s) → Below w.heap.size w w' → wpList P ops Q rest (a.put o.dst v') w') : wpList P ops Q (o :: rest) a w := by
  refine wpList_run hgd _ _ ?_ (h _ _ (loose_bytes w s) (Go.Joins.below_bytesWorld w.heap.size w 5 s (Nat.le_refl _)))
  unfold execOp
  simp only [ho, hx, Sem.run_bind, Lib.run_convert_string_bytes (P := P) w src dst 5 s hs hd he, Result.andThen_ok, Sem.run_pure]
end Go.Proofs.YtilpbjcbffbjeaaGreatDoor
namespace Go.Proofs.YtilpbjcbffbjeaaGreatDoor
open Go.RowKit
/-- l with the bytes of t from place o on. -/
def overAt (l : List Nat) (o : Nat) (t : List Nat) : List Nat := l.take o ++ t ++ l.drop (o + t.length)
theorem length_overAt (l : List Nat) (o : Nat) (t : List Nat) (h : o + t.length ≤ l.length) : (overAt l o t).length = l.length := by
  unfold overAt
  rw [List.length_append, List.length_append, List.length_take, List.length_drop]
  omega
theorem overAt_nil (l : List Nat) (o : Nat) : overAt l o [] = l := by unfold overAt; simp
theorem overAt_getD (l : List Nat) (o : Nat) (t : List Nat) (h : o + t.length ≤ l.length) (j : Nat) : (overAt l o t).getD j 0 = if o ≤ j ∧ j < o + t.length then t.getD (j - o) 0 else l.getD j 0 := by
  unfold overAt
  have hlo : (l.take o).length = o := by rw [List.length_take]; omega
  by_cases h1 : j < o
  · rw [if_neg (by omega), List.append_assoc, getD_apl _ _ _ (by omega), getD_take _ _ _ h1]
  · by_cases h2 : j < o + t.length
    · rw [if_pos (by omega), List.append_assoc, getD_apr _ _ _ (by omega), hlo, getD_apl _ _ _ (by omega)]
    · rw [if_neg (by omega), getD_apr _ _ _ (by rw [List.length_append]; omega), List.length_append, hlo, List.getD_eq_getElem?_getD, List.getElem?_drop, List.getD_eq_getElem?_getD]
      congr 2
      omega
theorem LooseAt.copy {w : World} {base g cap : Nat} {l : List Nat} (h : LooseAt w base g cap l) (o : Nat) (t : ByteArray) (hfit : o + t.size ≤ l.length) :
    LooseAt (w.setCells g o (t.data.toList.map fun x => Value.int .u8 (x.toNat : Int))) base g cap (overAt l o (bs t)) := by
  have hgr := grownBy_setCells g (t.data.toList.map fun x => Value.int .u8 (x.toNat : Int)) o w
  have hl : (t.data.toList.map fun x => Value.int .u8 (x.toNat : Int)).length = t.size := by rw [List.length_map]; rfl
  have hlen := length_overAt l o (bs t) (by rw [length_bs]; exact hfit)
  have hn := h.n
  refine ⟨h.b, by rw [hlen]; exact hn, fun j hj => ?_, fun j hj => World.isSome_setCells _ _ _ _ _ (h.room j hj), fun j hj => by rw [World.frozen?_setCells]; exact h.free j hj, Nat.lt_of_lt_of_le h.lt hgr.size⟩
  rw [hlen] at hj
  rw [overAt_getD _ _ _ (by rw [length_bs]; exact hfit), length_bs]
  by_cases h1 : o ≤ j ∧ j < o + t.size
  · rw [if_pos h1]
    obtain ⟨m, rfl⟩ : ∃ m, j = o + m := ⟨j - o, by omega⟩
    rw [World.cell?_setCells_in g _ o w (fun i hi => by rw [hl] at hi; exact h.room _ (by omega)) m (by rw [hl]; omega), show o + m - o = m by omega]
    have hm : m < t.data.toList.length := by have : t.data.toList.length = t.size := rfl; omega
    rw [List.getElem_map, bs, List.getD_eq_getElem?_getD, List.getElem?_map, List.getElem?_eq_getElem hm]
    rfl
  · rw [if_neg h1, World.cell?_setCells_out g _ o w ⟨g, j, none⟩ (fun _ _ => by rw [hl]; show j < o ∨ o + t.size ≤ j; omega)]
    exact h.cells j hj
theorem wpList_copy_loose {P : Program} {ops : Array Oper} {rest : List Oper} {o : Oper} {a : Act} {w : World} {Q : Exit → Act → World → Prop} {base g cap : Nat} {l : List Nat}
    (hgd : o.guard = none) (d s : Operand) (dT sT : TypeId) (ho : o.op = .call { callee := .builtin .copy, args := #[d, s], argTypes := #[dT, sT] }) (hu : P.underlying dT = some (.slice 5)) (hz : (P.info? 5).map (·.size) = some 1)
    (A : Option Addr) (dLen dCap : Nat) (t : ByteArray) (hd : a.eval d = .slice A dLen dCap) (hs : a.eval s = .string t) (hl : LooseAt w base g cap l) (off : Nat) (hA : 0 < t.size → A = some ⟨g, off, none⟩) (hle : t.size ≤ dLen) (hfit : off + t.size ≤ l.length)
    (h : ∀ w', LooseAt w' base g cap (overAt l off (bs t)) → w.grownBy w' (some g) → wpList P ops Q rest (a.put o.dst (goInt t.size)) w') : wpList P ops Q (o :: rest) a w := by
  have hsz : ∀ w, (Go.sizeOf 5).run P w = .ok 1 w := fun w => by
    cases hq : P.info? 5 with
    | none => simp [hq] at hz
    | some i =>
      have : i.size = 1 := by simpa [hq] using hz
      simp [sizeOf, typeInfo, hq, this]
  by_cases h0 : t.size = 0
  · have hb : bs t = [] := List.eq_nil_of_length_eq_zero (by rw [length_bs]; exact h0)
    have hfin := h w (by rw [hb, overAt_nil]; exact hl) ⟨rfl, rfl, rfl, Nat.le_refl _, fun _ _ _ => rfl⟩
    refine wpList_run hgd _ w ?_ hfin
    unfold execOp
    simp only [ho, resolve, invoke, builtin, Sem.run_bind, Sem.run_pure, Result.andThen_ok, List.map_toArray, List.map_cons, List.map_nil, hd, hs, Lib.run_copy_empty_string (P := P) w dT sT o.type 5 A dLen dCap t hu (by rw [hz]; rfl) h0, h0]
    rfl
  · have hA' := hA (by omega)
    subst hA'
    have hn := hl.n
    refine wpList_run hgd _ _ ?_ (h _ (hl.copy off t hfit) (grownBy_setCells _ _ _ _))
    unfold execOp
    simp only [ho, resolve, invoke, builtin, Sem.run_bind, Sem.run_pure, Result.andThen_ok, List.map_toArray, List.map_cons, List.map_nil, hd, hs, run_copy_string (P := P) w dT sT o.type 5 g off dLen dCap t hu hsz hle (fun j hj => hl.room _ (by omega)) (fun j hj => hl.free _ (by omega))]
end Go.Proofs.YtilpbjcbffbjeaaGreatDoor
namespace Go.Proofs.YtilpbjcbffbjeaaGreatDoor
set_option linter.unusedVariables false
open Go.RowKit
theorem nums_strCells (s : ByteArray) : nums .u8 (bs s) = Lib.strCells s := by simp [nums, Lib.strCells, bs]
theorem run_append_room_str {P : Program} (w : World) (t u ty : TypeId) (i : TypeInfo) (ht : P.underlying t = some (.slice 5)) (hu : P.underlying u = some .string) (hi : P.info? 5 = some i) (hs1 : i.size = 1)
    (b sLen sCap : Nat) (s : ByteArray) (hroom : sLen + s.size ≤ sCap) (hc : ∀ j, j < (Lib.strCells s).length → (w.cell? ⟨b, sLen + j, none⟩).isSome = true) (hf : ∀ j, j < (Lib.strCells s).length → w.frozen? ⟨b, sLen + j, none⟩ = false) :
    (Builtin.append_ #[t, u] ty #[.slice (some ⟨b, 0, none⟩) sLen sCap, .string s]).run P w = .ok (.slice (some ⟨b, 0, none⟩) (sLen + s.size) sCap) (w.setCells b sLen (Lib.strCells s)) := by
  have hfc := Lib.run_firstCells_string (P := P) w 1 s
  have hst := run_storeCells_cells (P := P) b sLen (Lib.strCells s) 0 w (by simpa using hc) (by simpa using hf) (Lib.strCells_oneCell s)
  simp only [Nat.add_zero] at hst
  simp [Builtin.append_, run_underlying ht, run_underlying hu, sizeOf, typeInfo, hi, hs1, Builtin.lenOf, hroom, hfc, Addr.add_lit, hst]
theorem wpList_append_loose_str {P : Program} {ops : Array Oper} {rest : List Oper} {o : Oper} {a : Act} {w : World} {Q : Exit → Act → World → Prop} {base : Nat} {v : Value} {l : List Nat}
    (hgd : o.guard = none) (sl x : Operand) (t u : TypeId) (ho : o.op = .call { callee := .builtin .append, args := #[sl, x], argTypes := #[t, u] })
    (ht : P.underlying t = some (.slice 5)) (hu : P.underlying u = some .string) (hi : (P.info? 5).map (fun i => (i.zero, i.size, i.bytes)) = some (some (.int .u8 0), 1, 1))
    (hs : a.eval sl = v) (hown : Loose w base v l) (s : ByteArray) (hx : a.eval x = .string s) (hsz : l.length + s.size ≤ 140737488355328) (hbase : base ≤ w.heap.size)
    (h : ∀ v' w', Loose w' base v' (l ++ bs s) → w.grownBy w' v.ownBlock → wpList P ops Q rest (a.put o.dst v') w') : wpList P ops Q (o :: rest) a w := by
  obtain ⟨i0, hi0, hz0, hz1, hz2⟩ := info_parts hi
  obtain ⟨g, cap, rfl, hl⟩ := hown
  have hlb : (bs s).length = s.size := length_bs s
  have hlc : (Lib.strCells s).length = s.size := by rw [← nums_strCells, length_nums, hlb]
  refine wpList_plain hgd fun K hK => ?_
  by_cases hr : l.length + s.size ≤ cap
  · have hin : ∀ j, j < (nums .u8 (bs s)).length → (w.cell? ⟨g, l.length + j, none⟩).isSome = true := fun j hj => hl.room _ (by rw [length_nums] at hj; omega)
    have hrun := run_append_room_str (P := P) w t u o.type i0 ht hu hi0 hz1 g l.length cap s hr (fun j hj => hl.room _ (by omega)) (fun j hj => hl.free _ (by omega))
    rw [← nums_strCells] at hrun
    have hgr := grownBy_setCells g (nums .u8 (bs s)) l.length w
    have hv := h (.slice (some ⟨g, 0, none⟩) (l ++ bs s).length cap) _ ⟨g, cap, rfl, hl.b, by rw [List.length_append]; omega, fun j hj => ?_, fun j hj => ?_, fun j hj => by rw [World.frozen?_setCells]; exact hl.free j hj, Nat.lt_of_lt_of_le hl.lt hgr.size⟩ hgr
    · rw [List.length_append, hlb] at hv
      unfold Oper.wp execOp
      simp only [ho, resolve, invoke, builtin, Sem.run_bind, Sem.run_pure, Result.andThen_ok, List.map_toArray, List.map_cons, List.map_nil, hs, hx, hrun]
      exact hK _ _ hv
    · rw [List.length_append] at hj
      by_cases h1 : j < l.length
      · rw [World.cell?_setCells_out g _ _ _ _ (fun _ _ => .inl (by show j < _; omega)), hl.cells j h1, List.getD_eq_getElem?_getD, List.getD_eq_getElem?_getD, List.getElem?_append_left h1]
      · have h2 : j = l.length + (j - l.length) := by omega
        have h3 : j - l.length < (nums .u8 (bs s)).length := by rw [length_nums]; omega
        have h4 := World.cell?_setCells_in g (nums .u8 (bs s)) l.length w hin (j - l.length) h3
        rw [← h2] at h4
        rw [h4, List.getD_eq_getElem?_getD, List.getElem?_append_right (by omega)]
        have h5 : j - l.length < (bs s).length := by omega
        simp [nums, h5]
    · by_cases h1 : j < l.length
      · rw [World.cell?_setCells_out g _ _ _ _ (fun _ _ => .inl (by show j < _; omega))]; exact hl.room j hj
      · by_cases h2 : j < l.length + (bs s).length
        · have e2 : j = l.length + (j - l.length) := by omega
          have h3 : j - l.length < (nums .u8 (bs s)).length := by rw [length_nums]; omega
          have h4 := World.cell?_setCells_in g (nums .u8 (bs s)) l.length w hin (j - l.length) h3
          rw [← e2] at h4
          rw [h4]; rfl
        · rw [World.cell?_setCells_out g _ _ _ _ (fun _ _ => .inr (by show _ ≤ j; rw [length_nums]; omega))]; exact hl.room j hj
  · have hrun := Lib.run_append_grow_string (P := P) w t u o.type 5 i0 (.int .u8 0) ht hu hi0 hz0 ⟨g, 0, none⟩ l.length cap (nums .u8 l) (by rw [hz1, length_nums, Nat.mul_one]) (fun j y hy => by
      have hj : j < l.length := by rw [← length_nums .u8 l]; exact (List.getElem?_eq_some_iff.1 hy).1
      rw [show (⟨g, 0, none⟩ : Addr).add j = ⟨g, j, none⟩ by unfold Addr.add; split <;> simp_all, hl.cells j hj, ← hy]; simp [nums, hj]) s (by omega) (by omega) (by rw [hz2]; exact growslice_fits (by omega) (by omega))
    have hge := grownCap_ge w (l.length + s.size) cap 5
    have hcm : grownCap w (l.length + s.size) cap 5 ≤ maxLen := grownCap_le_maxLen w (l.length + s.size) cap 5 (by unfold maxLen; omega)
    have hO : Owns (w.drew.alloc (.cells ((nums .u8 l).toArray ++ (Lib.strCells s).toArray ++ Builtin.zeroCells (Value.int .u8 0).cells (grownCap w (l.length + s.size) cap 5 - (l.length + s.size))) 5)) w.heap.size 5 (.slice (some ⟨w.heap.size, 0, none⟩) (l.length + s.size) (grownCap w (l.length + s.size) cap 5)) (l ++ bs s) := by
      unfold Owns
      rw [List.length_append, hlb]
      refine ⟨by rw [length_nums, List.length_append, hlb, Nat.mul_one], .inr ⟨w.heap.size, _, _, rfl, Nat.le_refl _, heap_alloc_new w.drew _, hge, hcm, ?_, ?_⟩⟩
      · simp only [Array.size_append, List.size_toArray, size_zeroCells, hlc, length_nums]
        show _ + _ + _ * 1 = _
        omega
      · have e : nums .u8 (l ++ bs s) = nums .u8 l ++ Lib.strCells s := by rw [← nums_strCells]; simp [nums]
        rw [e]
        simp [List.take_append, length_nums, hlc]
        rw [List.take_of_length_le (by rw [length_nums]; omega)]
    obtain ⟨g', cap', hv, h4⟩ := hO.loose (by rw [List.length_append]; omega)
    have hk := h _ _ ⟨g', cap', hv, ⟨Nat.le_trans hbase h4.b, h4.n, h4.cells, h4.room, h4.free, h4.lt⟩⟩ ⟨rfl, rfl, rfl, by simp, fun k hk _ => heap_lt (w := w.drew) hk⟩
    unfold Oper.wp execOp
    simp only [ho, resolve, invoke, builtin, Sem.run_bind, Sem.run_pure, Result.andThen_ok, List.map_toArray, List.map_cons, List.map_nil, hs, hx, hrun]
    exact hK _ _ hk
end Go.Proofs.YtilpbjcbffbjeaaGreatDoor
