/- A block of a text, what follows it; operations of a drawn region that make memory or store.
   What the law TopCrash keeps in memory and of the disk: a store and two audits on one disk; the law's own rows, which no row of the disk's shares a block with.
   The law TopCrash's states: at work, and behind the power's going; what each call leaves.
   The law TopCrash while the audits are being opened: at its beginning, and behind the power's going. -/
import Derived.Test.YtilpbjcbffbjeaaGreatDoorPkA
import Derived.Test.YtilpbjcbffbjeaaGreatDoorPkW
import Derived.Test.YtilpbjcbffbjeaaGreatDoorACalls
import Derived.Test.YtilpbjcbffbjeaaGreatDoorPkS
namespace Go.Proofs.YtilpbjcbffbjeaaGreatDoor
set_option linter.unusedVariables false
set_option maxRecDepth 100000
open Go.RowKit
/-- A block of a text; what follows a block. -/
def findBlockK (n : Nat) : Code → Option Code
  | .block m c => if m = n then some (.block m c) else findBlockK n c
  | .seq a b => match findBlockK n a with
    | some c => some c
    | none => findBlockK n b
  | .loop c => findBlockK n c
  | .scope c => findBlockK n c
  | .cond _ a b => match findBlockK n a with
    | some c => some c
    | none => findBlockK n b
  | _ => none
def isBlockK (n : Nat) : Code → Bool
  | .block m _ => m == n
  | .seq _ b => isBlockK n b
  | _ => false
def findAfterK (n : Nat) : Code → Option Code
  | .seq a b => if isBlockK n a = true then some b else match findAfterK n a with
    | some d => some d
    | none => findAfterK n b
  | .block _ c => findAfterK n c
  | .loop c => findAfterK n c
  | .scope c => findAfterK n c
  | .cond _ a b => match findAfterK n a with
    | some c => some c
    | none => findAfterK n b
  | _ => none
section
variable {P : Program} {Q : Exit → Act → World → Prop} {md : Region.Mode} {S : World → Prop} {n : Nat}
/-- An operation that makes memory, below n. -/
theorem runUK (i : Nat) {l : List Oper} {o : Oper} {r : List Oper} {fuel : Nat} {listed : Array Bool} {a : Act} {w : World} {v : Value} {w' : World} (hi : l.drop i = o :: r) (hin : decide (i < n) = true) (hw : Region.wanted o (yielded l.toArray a.tmps) = true)
    (hrun : (execOp a.eval o).run P w = .ok (.value v) w')
    (h : S w' ∧ wpAnyU P md l.toArray n Q S fuel (listed.setIfInBounds i true) (a.put o.dst v) w') :
    if i < n then wpOp P l.toArray Q i (fun a' w' => S w' ∧ wpAnyU P md l.toArray n Q S fuel (listed.setIfInBounds i true) a' w') a w else wpOp P l.toArray Q i (wpAny P md l.toArray Q fuel (listed.setIfInBounds i true)) a w := by
  refine someU i hi hin ?_
  rw [if_pos hw]
  unfold Oper.wp
  rw [hrun]
  exact h
/-- A store, the last. -/
theorem endStoreUK (i : Nat) {l : List Oper} {o : Oper} {r : List Oper} {fuel : Nat} {listed : Array Bool} {a : Act} {w w' : World} (hi : l.drop i = o :: r) (hin : decide (i < n) = false) (hr : Region.ready md l.toArray (listed.setIfInBounds i true) = [])
    (hw : Region.wanted o (yielded l.toArray a.tmps) = true) (hrun : (execOp a.eval o).run P w = .ok .skip w') (h : Q .normal (a.put o.dst undef) w') :
    if i < n then wpOp P l.toArray Q i (fun a' w' => S w' ∧ wpAnyU P md l.toArray n Q S fuel (listed.setIfInBounds i true) a' w') a w else wpOp P l.toArray Q i (wpAny P md l.toArray Q fuel (listed.setIfInBounds i true)) a w := by
  refine lastU i hi hin hr ?_
  rw [if_pos hw]
  unfold Oper.wp
  rw [hrun]
  exact h
end
end Go.Proofs.YtilpbjcbffbjeaaGreatDoor
namespace Go.Proofs.YtilpbjcbffbjeaaGreatDoor
set_option linter.unusedVariables false
set_option linter.unusedSectionVars false
set_option maxRecDepth 100000
open Go.RowKit
/-- Further blocks are avoided, if they are new. -/
theorem At.young {A : Avoid} (G : Avoid) {B b g cap : Nat} {w0 w w' : World} {D : Dk} (h : @At A B w0 b g cap D w) (hG : ∀ k, G.S k → A.S k ∨ w.heap.size ≤ k) (hb : Below w.heap.size w w') (hB : G.B ≤ w'.heap.size) : @At G B w0 b g cap D w' := by
  obtain ⟨h1, h2, h3, h4, h5⟩ := h
  exact @At.mk G _ _ _ _ _ _ _ (IsDisk.young G h1 hG hb hB) (h2.trans (hb.mono (Nat.le_trans h5 h2.size))) h3 h4 h5
theorem StA.young {A : Avoid} (G : Avoid) {B b g cap sb ten M : Nat} {w0 w w' : World} {D : Dk} {lb : Nat → Nat} {L : Nat → Lg} {n : Nat → Nat} {tx : Nat → ByteArray} (h : @StA A B w0 b g cap sb ten D M lb L n tx w) (hG : ∀ k, G.S k → A.S k ∨ w.heap.size ≤ k) (hb : Below w.heap.size w w') (hB : G.B ≤ w'.heap.size) : @StA G B w0 b g cap sb ten D M lb L n tx w' := by
  obtain ⟨on, st, sB, lg, inj, t8, ok, al, few, kp⟩ := h
  exact @StA.mk G _ _ _ _ _ _ _ _ _ _ _ _ _ _ (At.young G on hG hb hB) (st.below hb) sB (fun i hi => ⟨(lg i hi).1.below hb, (lg i hi).2⟩) inj t8 ok al few kp
theorem IsAL.young {A : Avoid} (G : Avoid) {w w' : World} {lb b f : Nat} {quota : Int} {ss : List ByteArray} {dd : Bool} (h : @IsAL A w lb b f quota ss dd) (hG : ∀ k, G.S k → A.S k ∨ w.heap.size ≤ k) (hb : Below w.heap.size w w') : @IsAL G w' lb b f quota ss dd := by
  obtain ⟨v, h1, h2⟩ := h
  exact ⟨v, h1.below hb h1.lt, Row1.young G h2 hG hb⟩
/-- A block of a type that the law's own rows have, and neither disk nor store nor log. -/
def OfK (w : World) (k : Nat) : Prop := ∃ cv T, w.heap[k]? = some (.cells cv T (0, 0)) ∧ (T = 9 ∨ T = 3 ∨ T = 28 ∨ T = 35)
theorem OfK.lt {w : World} {k : Nat} (h : OfK w k) : k < w.heap.size := by
  obtain ⟨cv, T, hk, _⟩ := h
  exact (Array.getElem?_eq_some_iff.1 hk).1
theorem OfK.other {w : World} {k j : Nat} (h : OfK w k) {cv : Array Value} {T : TypeId} {fr : Nat × Nat} (hj : w.heap[j]? = some (.cells cv T fr)) (h1 : T ≠ 9) (h2 : T ≠ 3) (h3 : T ≠ 28) (h4 : T ≠ 35) : k ≠ j := by
  rintro rfl
  obtain ⟨cv', T', hk, hT⟩ := h
  rw [hk] at hj
  injection hj with hj
  injection hj with _ e _
  subst e
  rcases hT with q | q | q | q
  · exact h1 q
  · exact h2 q
  · exact h3 q
  · exact h4 q
theorem OfK.set {w : World} {k j i : Nat} (h : OfK w k) (v : Value) : OfK (w.setCell ⟨j, i, none⟩ v) k := by
  obtain ⟨cv, T, hk, hT⟩ := h
  by_cases e : k = j
  · subst e
    exact ⟨_, T, setCell_blk w k i v hk, hT⟩
  · exact ⟨cv, T, (Below.heap_setCell w ⟨j, i, none⟩ v k e).trans hk, hT⟩
theorem OfK.same {w w' : World} {k : Nat} (h : OfK w k) (e : w'.heap[k]? = w.heap[k]?) : OfK w' k := by
  obtain ⟨cv, T, hk, hT⟩ := h
  exact ⟨cv, T, e.trans hk, hT⟩
variable [Avoid]
section
variable {B b g cap sb ten M k lp f : Nat} {w0 w w' : World} {D : Dk} {lb : Nat → Nat} {L : Nat → Lg} {n : Nat → Nat} {tx : Nat → ByteArray} {quota : Int} {ss : List ByteArray} {dd : Bool} {S : Nat → Prop}
theorem OfK.notBG (h : OfK w k) (hd : IsDisk w b g cap D) : k ≠ b ∧ k ≠ g := by
  obtain ⟨cv, h1, _⟩ := hd.blk
  obtain ⟨cur, h2, _⟩ := hd.fs.blk
  exact ⟨h.other h1 (by decide) (by decide) (by decide) (by decide), h.other h2 (by decide) (by decide) (by decide) (by decide)⟩
theorem OfK.notSA (h : OfK w k) (hs : StA B w0 b g cap sb ten D M lb L n tx w) : ¬ SA ten lb b g sb k := by
  have hbg := h.notBG hs.on.disk
  rintro (e | e | e | ⟨i, hi, e⟩)
  · exact hbg.1 e
  · exact hbg.2 e
  · exact h.other hs.st (by decide) (by decide) (by decide) (by decide) e
  · exact h.other (hs.lg i hi).1.blk (by decide) (by decide) (by decide) (by decide) e
theorem OfK.notAL (h : OfK w k) (hl : IsAL w lp b f quota ss dd) : k ≠ lp := by
  obtain ⟨v, h1, _⟩ := hl
  exact h.other h1 (by decide) (by decide) (by decide) (by decide)
theorem IsAL.notSA (hl : IsAL w lp b f quota ss dd) (hs : StA B w0 b g cap sb ten D M lb L n tx w) : ¬ SA ten lb b g sb lp := by
  have hbg := hl.ne hs.on.disk
  obtain ⟨v, h0, _⟩ := hl
  rintro (e | e | e | ⟨i, hi, e⟩)
  · exact hbg.1 e
  · exact hbg.2 e
  · subst e
    have h1 := hs.st
    unfold IsSt at h1
    rw [show w.heap[lp]? = _ from h0] at h1
    injection h1 with h1
    injection h1 with _ q _
    exact absurd q (by decide)
  · have h1 := (hs.lg i hi).1.blk
    rw [← e, show w.heap[lp]? = _ from h0] at h1
    injection h1 with h1
    injection h1 with _ q _
    exact absurd q (by decide)
/-- What is in the avoided blocks may change. -/
theorem At.keepG (h : At B w0 b g cap D w) (hc : Chg S w w') (hS : ∀ k, S k → Avoid.S k) (hK : ∀ k, S k → OfK w k) (hB : ∀ k, S k → B ≤ k) : At B w0 b g cap D w' :=
  ⟨h.disk.keepG hc (fun e => ((hK b e).notBG h.disk).1 rfl) (fun e => ((hK g e).notBG h.disk).2 rfl) hS, h.below.trans (hc.below (Nat.le_trans h.le h.below.size) (fun k hk e => by have := hB k e; omega)), h.bB, h.gB, h.le⟩
theorem StA.keepG (h : StA B w0 b g cap sb ten D M lb L n tx w) (hc : Chg S w w') (hS : ∀ k, S k → Avoid.S k) (hK : ∀ k, S k → OfK w k) (hB : ∀ k, S k → B ≤ k) : StA B w0 b g cap sb ten D M lb L n tx w' :=
  ⟨h.on.keepG hc hS hK hB, h.st.keep hc (fun e => (hK sb e).notSA h (.inr (.inr (.inl rfl)))), h.sB, fun i hi => ⟨(h.lg i hi).1.keep hc (fun e => (hK _ e).notSA h (.inr (.inr (.inr ⟨i, hi, rfl⟩)))), (h.lg i hi).2⟩, h.inj, h.t8, h.ok, h.al, h.few, h.kp⟩
theorem IsAL.keepG (h : IsAL w lp b f quota ss dd) (hc : Chg S w w') (hS : ∀ k, S k → Avoid.S k) (hK : ∀ k, S k → OfK w k) : IsAL w' lp b f quota ss dd := by
  have hn : ¬ S lp := fun e => (hK lp e).notAL h rfl
  obtain ⟨v, h1, h2⟩ := h
  exact ⟨v, h1.keep hc hn, Row1.keepG h2 hc hS⟩
end
section
variable {B b g cap sb ten M f : Nat} {w0 w w' : World} {D D' : Dk} {lb : Nat → Nat} {L : Nat → Lg} {n : Nat → Nat} {tx : Nat → ByteArray} {l : List Fl} {most m : Nat} {u : ByteArray}
/-- An audit's change of its own file leaves the store's logs as they are. -/
theorem Rs.goneA (h : Rs D.l M f most m u) {f2 : Nat} (hg : GoneA D D' f2) (h0 : f ≠ f2) (h1 : f + 1 ≠ f2) : Rs D'.l M f most m u := by
  obtain ⟨snap, ps, h⟩ := h
  obtain ⟨c, o, gen, hr⟩ := h.rest
  have hf := hr.f1
  obtain ⟨e0, e1⟩ := hr.wss
  obtain ⟨cs, q0⟩ := hg.other f h0 (by omega)
  obtain ⟨cs', q1⟩ := hg.other (f + 1) h1 hf
  rw [left_ws e0] at q0
  rw [left_ws e1] at q1
  exact Rs.other ⟨snap, ps, h⟩ hg.len q0 q1
/-- A file that no log of a store has. -/
def Out (ten f : Nat) : Prop := ∀ i, i ≤ ten → f ≠ fiS i ∧ f ≠ fiS i + 1
theorem StA.aliveA {S : Nat → Prop} (h : StA B w0 b g cap sb ten D M lb L n tx w) (ha : AliveA D D' f) (hf : Out ten f) (hfw : FewS D') (hd : IsDisk w' b g cap D') (hc : Chg S w w') (hS : ∀ k, S k → k ≠ b → k ≠ g → ¬ SA ten lb b g sb k) (hB : ∀ k, S k → B ≤ k) : StA B w0 b g cap sb ten D' M lb L n tx w' := by
  have hbg := h.st.ne h.on.disk
  refine ⟨⟨hd, h.on.below.trans (hc.below (Nat.le_trans h.on.le h.on.below.size) (fun k hk e => by have := hB k e; omega)), h.on.bB, h.on.gB, h.on.le⟩, h.st.keep hc (fun e => hS sb e hbg.1 hbg.2 (.inr (.inr (.inl rfl)))), h.sB, fun i hi => ⟨(h.lg i hi).1.keep hc (fun e => ?_), (h.lg i hi).2⟩, h.inj, h.t8, ha.ok, ha.al, hfw, fun i hi => ?_⟩
  · have := (h.lg i hi).1.ne h.on.disk
    exact hS _ e this.1 this.2 (.inr (.inr (.inr ⟨i, hi, rfl⟩)))
  · have := hf i hi
    exact (h.kp i hi).other ha.len (ha.other _ (fun e => this.1 e.symm)) (ha.other _ (fun e => this.2 e.symm))
theorem StA.goneA (h : StA B w0 b g cap sb ten D M lb L n tx w) (hg : GoneA D D' f) (hf : Out ten f) : RsA D'.l M ten n tx := fun i hi => by
  have := hf i hi
  exact (h.kp i hi).rest.goneA hg (fun e => this.1 e.symm) (fun e => this.2 e.symm)
theorem StA.armK (hs : StA B w0 b g cap sb ten D M lb L n tx w) (x : Nat) (css : List (List Int)) (hx : x ≤ 9223372036854775807) (hcs : ∀ i, (css.getD i []).length ≤ 140737488355328) (hd : IsDisk w' b g cap ⟨D.l, x, css, D.dead⟩) (hc : Chg (fun k => k = b) w w') : StA B w0 b g cap sb ten ⟨D.l, x, css, D.dead⟩ M lb L n tx w' := by
  have hbg := hs.st.ne hs.on.disk
  exact ⟨hs.on.chg hd (hc.mono fun k _ h => .inl h), hs.st.keep hc (fun e => hbg.1 e), hs.sB, fun i hi => ⟨(hs.lg i hi).1.keep hc (fun e => (hs.lg i hi).1.ne hs.on.disk |>.1 e), (hs.lg i hi).2⟩, hs.inj, hs.t8, ⟨hs.ok.n, hs.ok.pos, hs.ok.size, hs.ok.many, hx, hcs⟩, hs.al, hs.few, hs.kp⟩
end
theorem FewS.goneA {D D' : Dk} {f : Nat} (hg : GoneA D D' f) (hw : (D'.l.getD f Fl.zero).ws = []) : FewS D' := by
  intro j hj
  by_cases h0 : j = f
  · rw [h0, hw]; exact Nat.zero_le _
  · obtain ⟨cs, e⟩ := hg.other j h0 (by rw [← hg.len]; exact hj)
    rw [e]; exact Nat.zero_le _
theorem FewS.aliveA {D D' : Dk} {f k : Nat} {ss : List ByteArray} (h : FewS D) (ha : AliveA D D' f) (hx : AC (D'.l.getD f Fl.zero) ss k) (hf : f < D.l.length) : FewS D' := by
  intro j hj
  by_cases h0 : j = f
  · rw [h0]
    have h1 := hx.many
    have h2 := hx.few (ha.ok.size f (by rw [ha.len]; exact hf))
    omega
  · rw [ha.other j h0]
    exact h j (by rw [← ha.len]; exact hj)
/-- The audits' files: 4 and 7. -/
def fA (t : Nat) : Nat := 4 + 3 * t
theorem fA_out (t : Nat) (ht : t < 2) : Out 2 (fA t) := by
  intro i hi
  unfold fA fiS
  omega
/-- The law's own blocks: the logs, the texts of each, how many are safe, the texts of the tenants, what was in flight. -/
structure KM (B z : Nat) (la : Nat → Option Nat) (va : Nat → Value) (al : Nat → List ByteArray) (sf : Nat → Nat) (cf fo : Nat → ByteArray) (w : World) : Prop where
  lg : w.heap[z]? = some (.cells #[lpV (la 0), lpV (la 1)] 35 (0, 0))
  tx : w.heap[z + 3]? = some (.cells #[va 0, va 1] 28 (0, 0))
  sf : w.heap[z + 4]? = some (.cells #[.int .i64 (sf 0 : Nat), .int .i64 (sf 1 : Nat)] 3 (0, 0))
  cf : w.heap[z + 5]? = some (.cells #[.string (cf 0), .string (cf 1)] 9 (0, 0))
  fo : w.heap[z + 6]? = some (.cells #[.string (fo 0), .string (fo 1)] 9 (0, 0))
  rows : ∀ t, t < 2 → OwnsS w B (va t) (al t)
  rowS : ∀ t, t < 2 → ∀ k, (va t).ownBlock = some k → Avoid.S k ∧ k ≠ z + 5 ∧ k ≠ z + 6
  apart : ∀ k, (va 0).ownBlock = some k → (va 1).ownBlock ≠ some k
  zS : ∀ i, (i = 0 ∨ i = 3 ∨ i = 4 ∨ i = 5 ∨ i = 6) → Avoid.S (z + i)
  zB : B ≤ z
  of : ∀ k, Avoid.S k → OfK w k
  ge : ∀ k, Avoid.S k → B ≤ k
theorem two {t : Nat} (h : t < 2) : t = 0 ∨ t = 1 := by omega
section
variable {B z t b g cap sb ten M : Nat} {la : Nat → Option Nat} {va : Nat → Value} {al : Nat → List ByteArray} {sf : Nat → Nat} {cf fo : Nat → ByteArray} {w0 w w' : World} {S : Nat → Prop} {D : Dk} {lb : Nat → Nat} {L : Nat → Lg} {n : Nat → Nat} {tx : Nat → ByteArray}
theorem KM.clg (h : KM B z la va al sf cf fo w) (ht : t < 2) : w.cell? ⟨z, t, none⟩ = some (lpV (la t)) := by
  rw [cell_of_row w z t _ _ _ h.lg]; rcases two ht with rfl | rfl <;> rfl
theorem KM.ctx (h : KM B z la va al sf cf fo w) (ht : t < 2) : w.cell? ⟨z + 3, t, none⟩ = some (va t) := by
  rw [cell_of_row w _ t _ _ _ h.tx]; rcases two ht with rfl | rfl <;> rfl
theorem KM.csf (h : KM B z la va al sf cf fo w) (ht : t < 2) : w.cell? ⟨z + 4, t, none⟩ = some (.int .i64 (sf t : Nat)) := by
  rw [cell_of_row w _ t _ _ _ h.sf]; rcases two ht with rfl | rfl <;> rfl
theorem KM.ccf (h : KM B z la va al sf cf fo w) (ht : t < 2) : w.cell? ⟨z + 5, t, none⟩ = some (.string (cf t)) := by
  rw [cell_of_row w _ t _ _ _ h.cf]; rcases two ht with rfl | rfl <;> rfl
theorem KM.cfo (h : KM B z la va al sf cf fo w) (ht : t < 2) : w.cell? ⟨z + 6, t, none⟩ = some (.string (fo t)) := by
  rw [cell_of_row w _ t _ _ _ h.fo]; rcases two ht with rfl | rfl <;> rfl
theorem KM.free (h : KM B z la va al sf cf fo w) (i j : Nat) (hi : i = 0 ∨ i = 3 ∨ i = 4 ∨ i = 5 ∨ i = 6) : w.frozen? ⟨z + i, j, none⟩ = false := by
  rcases hi with rfl | rfl | rfl | rfl | rfl
  · exact frozen_of_row w z j _ _ h.lg
  · exact frozen_of_row w _ j _ _ h.tx
  · exact frozen_of_row w _ j _ _ h.sf
  · exact frozen_of_row w _ j _ _ h.cf
  · exact frozen_of_row w _ j _ _ h.fo
theorem KM.keep (h : KM B z la va al sf cf fo w) (hc : Chg S w w') (hn : ∀ k, S k → ¬ Avoid.S k) : KM B z la va al sf cf fo w' := by
  have e : ∀ k, Avoid.S k → w'.heap[k]? = w.heap[k]? := fun k hk => hc.block k (h.of k hk).lt (fun q => hn k q hk)
  refine ⟨(e _ (h.zS 0 (by omega))).trans h.lg, (e _ (h.zS 3 (by omega))).trans h.tx, (e _ (h.zS 4 (by omega))).trans h.sf, (e _ (h.zS 5 (by omega))).trans h.cf, (e _ (h.zS 6 (by omega))).trans h.fo, fun t ht => ?_, h.rowS, h.apart, h.zS, h.zB, fun k hk => (h.of k hk).same (e k hk), h.ge⟩
  have h1 := h.rows t ht
  refine ⟨h1.1, ?_⟩
  rcases h1.2 with q | ⟨g, cap, cur, q1, q2, q3, q4⟩
  · exact .inl q
  · exact .inr ⟨g, cap, cur, q1, q2, (e g (h.rowS t ht g (by rw [q1]; rfl)).1).trans q3, q4⟩
theorem KM.below (h : KM B z la va al sf cf fo w) (hb : Below w.heap.size w w') : KM B z la va al sf cf fo w' := h.keep (Chg.of_below (fun _ => False) hb) (fun k h => h.elim)
theorem KM.keepSA (h : KM B z la va al sf cf fo w) (hs : StA B w0 b g cap sb ten D M lb L n tx w) (hc : Chg (SA ten lb b g sb) w w') : KM B z la va al sf cf fo w' := h.keep hc (fun k h1 h2 => (h.of k h2).notSA hs h1)
theorem KM.keepBG (h : KM B z la va al sf cf fo w) (hs : At B w0 b g cap D w) (hc : Chg (fun k => k = b ∨ k = g) w w') : KM B z la va al sf cf fo w' := h.keep hc (fun k h1 h2 => by have := (h.of k h2).notBG hs.disk; omega)
theorem KM.keepAL {lp f : Nat} {quota : Int} {ss : List ByteArray} {dd : Bool} (h : KM B z la va al sf cf fo w) (hs : At B w0 b g cap D w) (hl : IsAL w lp b f quota ss dd) (hc : Chg (fun k => k = lp ∨ k = b ∨ k = g) w w') : KM B z la va al sf cf fo w' :=
  h.keep hc (fun k h1 h2 => by have := (h.of k h2).notBG hs.disk; have := (h.of k h2).notAL hl; omega)
/-- One of the law's own rows changes: the other rows and the rows of texts stay. -/
theorem KM.rowsSet (h : KM B z la va al sf cf fo w) {i : Nat} (hi : i = 0 ∨ i = 3 ∨ i = 4 ∨ i = 5 ∨ i = 6) (j : Nat) (v : Value) : ∀ t, t < 2 → OwnsS (w.setCell ⟨z + i, j, none⟩ v) B (va t) (al t) := by
  intro t ht
  have h1 := h.rows t ht
  refine ⟨h1.1, ?_⟩
  rcases h1.2 with q | ⟨g, cap, cur, q1, q2, q3, q4⟩
  · exact .inl q
  · have hg := h.rowS t ht g (by rw [q1]; rfl)
    have hne : g ≠ z + i := by
      rcases hi with rfl | rfl | rfl | rfl | rfl
      · intro e; rw [e, show w.heap[z + 0]? = _ from h.lg] at q3; injection q3 with q3; injection q3 with _ q _; exact absurd q (by decide)
      · intro e; rw [e, h.tx] at q3; injection q3 with q3; injection q3 with _ q _; exact absurd q (by decide)
      · intro e; rw [e, h.sf] at q3; injection q3 with q3; injection q3 with _ q _; exact absurd q (by decide)
      · exact hg.2.1
      · exact hg.2.2
    exact .inr ⟨g, cap, cur, q1, q2, (Below.heap_setCell w ⟨z + i, j, none⟩ v g hne).trans q3, q4⟩
theorem setO (w : World) (k j m : Nat) (v : Value) (h : m ≠ k) : (w.setCell ⟨k, j, none⟩ v).heap[m]? = w.heap[m]? := Below.heap_setCell w ⟨k, j, none⟩ v m h
theorem KM.setSf (h : KM B z la va al sf cf fo w) (ht : t < 2) (x : Nat) : KM B z la va al (upd sf t x) cf fo (w.setCell ⟨z + 4, t, none⟩ (.int .i64 (x : Nat))) := by
  refine ⟨(setO w (z + 4) t z _ (by omega)).trans h.lg, (setO w (z + 4) t (z + 3) _ (by omega)).trans h.tx, ?_, (setO w (z + 4) t (z + 5) _ (by omega)).trans h.cf, (setO w (z + 4) t (z + 6) _ (by omega)).trans h.fo, h.rowsSet (i := 4) (by omega) _ _, h.rowS, h.apart, h.zS, h.zB, fun k hk => (h.of k hk).set _, h.ge⟩
  rw [setCell_blk w (z + 4) t _ h.sf]
  rcases two ht with rfl | rfl <;> rfl
theorem KM.setCf (h : KM B z la va al sf cf fo w) (ht : t < 2) (x : ByteArray) : KM B z la va al sf (upd cf t x) fo (w.setCell ⟨z + 5, t, none⟩ (.string x)) := by
  refine ⟨(setO w (z + 5) t z _ (by omega)).trans h.lg, (setO w (z + 5) t (z + 3) _ (by omega)).trans h.tx, (setO w (z + 5) t (z + 4) _ (by omega)).trans h.sf, ?_, (setO w (z + 5) t (z + 6) _ (by omega)).trans h.fo, h.rowsSet (i := 5) (by omega) _ _, h.rowS, h.apart, h.zS, h.zB, fun k hk => (h.of k hk).set _, h.ge⟩
  rw [setCell_blk w (z + 5) t _ h.cf]
  rcases two ht with rfl | rfl <;> rfl
theorem KM.setFo (h : KM B z la va al sf cf fo w) (ht : t < 2) (x : ByteArray) : KM B z la va al sf cf (upd fo t x) (w.setCell ⟨z + 6, t, none⟩ (.string x)) := by
  refine ⟨(setO w (z + 6) t z _ (by omega)).trans h.lg, (setO w (z + 6) t (z + 3) _ (by omega)).trans h.tx, (setO w (z + 6) t (z + 4) _ (by omega)).trans h.sf, (setO w (z + 6) t (z + 5) _ (by omega)).trans h.cf, ?_, h.rowsSet (i := 6) (by omega) _ _, h.rowS, h.apart, h.zS, h.zB, fun k hk => (h.of k hk).set _, h.ge⟩
  rw [setCell_blk w (z + 6) t _ h.fo]
  rcases two ht with rfl | rfl <;> rfl
theorem KM.setLg (h : KM B z la va al sf cf fo w) (ht : t < 2) (x : Nat) : KM B z (upd la t (some x)) va al sf cf fo (w.setCell ⟨z, t, none⟩ (.pointer (some ⟨x, 0, none⟩))) := by
  refine ⟨?_, (setO w z t (z + 3) _ (by omega)).trans h.tx, (setO w z t (z + 4) _ (by omega)).trans h.sf, (setO w z t (z + 5) _ (by omega)).trans h.cf, (setO w z t (z + 6) _ (by omega)).trans h.fo, h.rowsSet (i := 0) (by omega) _ _, h.rowS, h.apart, h.zS, h.zB, fun k hk => (h.of k hk).set _, h.ge⟩
  rw [setCell_blk w z t _ h.lg]
  rcases two ht with rfl | rfl <;> rfl
theorem KM.setC (h : KM B z la va al sf cf fo w) (i j : Nat) (hi : i = 0 ∨ i = 3 ∨ i = 4 ∨ i = 5 ∨ i = 6) (v : Value) : Chg (fun k => k = z + i) w (w.setCell ⟨z + i, j, none⟩ v) ∧ (∀ k, k = z + i → Avoid.S k) ∧ (∀ k, k = z + i → OfK w k) ∧ ∀ k, k = z + i → B ≤ k :=
  ⟨Chg.setCell (fun k => k = z + i) w rfl v, fun k e => by rw [e]; exact h.zS i hi, fun k e => by rw [e]; exact h.of _ (h.zS i hi), fun k e => by rw [e]; exact h.ge _ (h.zS i hi)⟩
/-- A row of texts lies in none of the law's other blocks. -/
theorem KM.rowNe (h : KM B z la va al sf cf fo w) (ht : t < 2) {k : Nat} (hk : (va t).ownBlock = some k) : ∀ i, (i = 0 ∨ i = 3 ∨ i = 4 ∨ i = 5 ∨ i = 6) → k ≠ z + i := by
  have hg := h.rowS t ht k hk
  have h1 := h.rows t ht
  rcases h1.2 with ⟨q, _⟩ | ⟨g, cap, cur, q1, q2, q3, q4⟩
  · rw [q] at hk; cases hk
  · rw [q1] at hk
    obtain rfl : g = k := Option.some.inj hk
    intro i hi
    rcases hi with rfl | rfl | rfl | rfl | rfl
    · intro e; rw [e, show w.heap[z + 0]? = _ from h.lg] at q3; injection q3 with q3; injection q3 with _ q _; exact absurd q (by decide)
    · intro e; rw [e, h.tx] at q3; injection q3 with q3; injection q3 with _ q _; exact absurd q (by decide)
    · intro e; rw [e, h.sf] at q3; injection q3 with q3; injection q3 with _ q _; exact absurd q (by decide)
    · exact hg.2.1
    · exact hg.2.2
end
/-- The blocks that are avoided once a row of texts lies in another block. -/
abbrev gNext (A : Avoid) (v v' : Value) (w : World) (h : A.B ≤ w.heap.size) (hv : ∀ k, v'.ownBlock = some k → k < w.heap.size) : Avoid := ⟨fun k => (A.S k ∧ v.ownBlock ≠ some k) ∨ v'.ownBlock = some k, w.heap.size, fun k e => e.elim (fun q => Nat.lt_of_lt_of_le (A.lt k q.1) h) (hv k)⟩
end Go.Proofs.YtilpbjcbffbjeaaGreatDoor
namespace Go.Proofs.YtilpbjcbffbjeaaGreatDoor
set_option linter.unusedVariables false
set_option linter.unusedSectionVars false
set_option maxRecDepth 100000
open Go.RowKit
theorem Row1.move {A : Avoid} (G : Avoid) {T : Nat → Prop} {w w' : World} {Ty : TypeId} {v : Value} {xs : List Value} (h : @Row1 A w Ty v xs) (hc : Chg T w w') (hT : ∀ k, T k → A.S k) (hG : ∀ k, G.S k → A.S k ∨ w.heap.size ≤ k) : @Row1 G w' Ty v xs := by
  refine ⟨(@Row1.keepG A _ _ _ _ _ _ h hc hT).1, fun k hk hS => ?_⟩
  rcases hG k hS with q | q
  · exact h.2 k hk q
  · have := World.ownsRow.lt h.1 k hk; omega
theorem WCs.move {A : Avoid} (G : Avoid) {T : Nat → Prop} {w w' : World} {v : Value} {css : List (List Int)} (h : @WCs A w v css) (hc : Chg T w w') (hT : ∀ k, T k → A.S k) (hG : ∀ k, G.S k → A.S k ∨ w.heap.size ≤ k) : @WCs G w' v css := by
  obtain ⟨us, hl, hr, hi⟩ := h
  exact ⟨us, hl, Row1.move G hr hc hT hG, fun i h => Row1.move G (hi i h) hc hT hG⟩
theorem IsDisk.move {A : Avoid} (G : Avoid) {T : Nat → Prop} {w w' : World} {b g cap : Nat} {D : Dk} (h : @IsDisk A w b g cap D) (hc : Chg T w w') (hT : ∀ k, T k → A.S k) (hK : ∀ k, T k → OfK w k) (hG : ∀ k, G.S k → A.S k ∨ w.heap.size ≤ k) (hB : G.B ≤ w'.heap.size) : @IsDisk G w' b g cap D := by
  have hgl := @FilesAt.lt A _ _ _ _ (@IsDisk.fs A _ _ _ _ _ h)
  have hbl := @IsDisk.lt A _ _ _ _ _ h
  have hb : ¬ T b := fun e => (@OfK.notBG A _ _ _ _ _ _ (hK b e) h).1 rfl
  have hg : ¬ T g := fun e => (@OfK.notBG A _ _ _ _ _ _ (hK g e) h).2 rfl
  obtain ⟨⟨cv, h1, h2⟩, ⟨⟨cur, hbb, hs⟩, hcm, hln, hsf, hws⟩, _⟩ := h
  refine @IsDisk.mk G _ _ _ _ _ ⟨cv, (hc.block b hbl hb).trans h1, WCs.move G h2 hc hT hG⟩ (@FilesAt.mk G _ _ _ _ ⟨cur, (hc.block g hgl hg).trans hbb, hs⟩ hcm hln (fun i hi => hc.cell hg (hsf i hi)) (fun i hi => ?_)) hB
  obtain ⟨v, h3, h4⟩ := hws i hi
  exact ⟨v, hc.cell hg h3, Row1.move G h4 hc hT hG⟩
theorem At.move {A : Avoid} (G : Avoid) {T : Nat → Prop} {B b g cap : Nat} {w0 w w' : World} {D : Dk} (h : @At A B w0 b g cap D w) (hc : Chg T w w') (hT : ∀ k, T k → A.S k) (hK : ∀ k, T k → OfK w k) (hTB : ∀ k, T k → B ≤ k) (hG : ∀ k, G.S k → A.S k ∨ w.heap.size ≤ k) (hB : G.B ≤ w'.heap.size) : @At G B w0 b g cap D w' := by
  obtain ⟨h1, h2, h3, h4, h5⟩ := h
  exact @At.mk G _ _ _ _ _ _ _ (IsDisk.move G h1 hc hT hK hG hB) (h2.trans (hc.below (Nat.le_trans h5 h2.size) (fun k hk e => by have := hTB k e; omega))) h3 h4 h5
theorem StA.move {A : Avoid} (G : Avoid) {T : Nat → Prop} {B b g cap sb ten M : Nat} {w0 w w' : World} {D : Dk} {lb : Nat → Nat} {L : Nat → Lg} {n : Nat → Nat} {tx : Nat → ByteArray} (h : @StA A B w0 b g cap sb ten D M lb L n tx w) (hc : Chg T w w') (hT : ∀ k, T k → A.S k) (hK : ∀ k, T k → OfK w k) (hTB : ∀ k, T k → B ≤ k) (hG : ∀ k, G.S k → A.S k ∨ w.heap.size ≤ k) (hB : G.B ≤ w'.heap.size) : @StA G B w0 b g cap sb ten D M lb L n tx w' := by
  have hn : ∀ k, T k → ¬ SA ten lb b g sb k := fun k e => @OfK.notSA A _ _ _ _ _ _ _ _ _ _ _ _ _ _ _ (hK k e) h
  obtain ⟨on, st, sB, lg, inj, t8, ok, al, few, kp⟩ := h
  exact @StA.mk G _ _ _ _ _ _ _ _ _ _ _ _ _ _ (At.move G on hc hT hK hTB hG hB) (st.keep hc (fun e => hn sb e (.inr (.inr (.inl rfl))))) sB (fun i hi => ⟨(lg i hi).1.keep hc (fun e => hn _ e (.inr (.inr (.inr ⟨i, hi, rfl⟩)))), (lg i hi).2⟩) inj t8 ok al few kp
theorem IsAL.move {A : Avoid} (G : Avoid) {T : Nat → Prop} {w w' : World} {lb b f : Nat} {quota : Int} {ss : List ByteArray} {dd : Bool} (h : @IsAL A w lb b f quota ss dd) (hc : Chg T w w') (hT : ∀ k, T k → A.S k) (hK : ∀ k, T k → OfK w k) (hG : ∀ k, G.S k → A.S k ∨ w.heap.size ≤ k) : @IsAL G w' lb b f quota ss dd := by
  have hn : ¬ T lb := fun e => @OfK.notAL A _ _ _ _ _ _ _ _ (hK lb e) h rfl
  obtain ⟨v, h1, h2⟩ := h
  exact ⟨v, h1.keep hc hn, Row1.move G h2 hc hT hG⟩
/-- At work. -/
structure KA [Avoid] (B : Nat) (w0 : World) (b g cap sb z : Nat) (lb la : Nat → Nat) (va : Nat → Value) (am al : Nat → List ByteArray) (sf : Nat → Nat) (cf fo : Nat → ByteArray) (D : Dk) (M : Nat) (L : Nat → Lg) (n : Nat → Nat) (tx : Nat → ByteArray) (w : World) : Prop where
  st : StA B w0 b g cap sb 2 D M lb L n tx w
  m : KM B z (fun t => some (la t)) va am sf cf fo w
  lg : ∀ t, t < 2 → IsAL w (la t) b (fA t) 262144 (al t) false
  lB : ∀ t, t < 2 → B ≤ la t
  ne : la 0 ≠ la 1
  ac : ∀ t, t < 2 → AC (D.l.getD (fA t) Fl.zero) (al t) (sf t)
  len : D.l.length = 8
  bd : ∀ j, n j ≤ M
  hz : ∀ i, 2 < i → n i = 0 ∧ tx i = ⟨#[]⟩
  e1 : 1 ≤ n 0
  cfg : ∀ t, t < 2 → tx (t + 1) = cf t
/-- Behind the power's going. -/
structure KO [Avoid] (B : Nat) (w0 : World) (b g cap z : Nat) (la : Nat → Nat) (va : Nat → Value) (am al : Nat → List ByteArray) (sf : Nat → Nat) (cf fo : Nat → ByteArray) (D : Dk) (M : Nat) (n : Nat → Nat) (tx : Nat → ByteArray) (inn : Int) (w : World) : Prop where
  on : At B w0 b g cap D w
  m : KM B z (fun t => some (la t)) va am sf cf fo w
  ok : DOk D
  few : FewS D
  len : D.l.length = 8
  rs : RsA D.l M 2 n tx
  bd : ∀ j, n j ≤ M
  hz : ∀ i, 2 < i → n i = 0 ∧ tx i = ⟨#[]⟩
  e1 : 1 ≤ n 0
  ar : ∀ t, t < 2 → ∃ j, sf t ≤ j ∧ j ≤ (al t).length ∧ ARest (D.l.getD (fA t) Fl.zero) ((al t).take j)
  cfg : ∀ t, t < 2 → tx (t + 1) = cf t ∨ (inn = (t : Int) ∧ tx (t + 1) = fo t)
theorem fA_far {t s : Nat} (h : t ≠ s) : fA t ≠ fA s := by unfold fA; omega
theorem fA_lt {t : Nat} (h : t < 2) {l : List Fl} (hl : l.length = 8) : fA t < l.length := by unfold fA; omega
variable [Avoid]
section
variable {B b g cap sb z t M lp : Nat} {w0 w w' : World} {la : Nat → Nat} {va : Nat → Value} {am al : Nat → List ByteArray} {sf : Nat → Nat} {cf fo : Nat → ByteArray} {D D' : Dk} {lb : Nat → Nat} {L L' : Nat → Lg} {n n' : Nat → Nat} {tx tx' : Nat → ByteArray} {u : ByteArray} {S : Nat → Prop}
theorem KA.neT (h : KA B w0 b g cap sb z lb la va am al sf cf fo D M L n tx w) {t s : Nat} (ht : t < 2) (hs : s < 2) (e : t ≠ s) : la t ≠ la s := by
  have := h.ne
  rcases two ht with rfl | rfl <;> rcases two hs with rfl | rfl
  · exact absurd rfl e
  · exact this
  · exact fun q => this q.symm
  · exact absurd rfl e
theorem KA.clg (h : KA B w0 b g cap sb z lb la va am al sf cf fo D M L n tx w) (ht : t < 2) : w.cell? ⟨z, t, none⟩ = some (.pointer (some ⟨la t, 0, none⟩)) := h.m.clg ht
theorem KA.fit (h : KA B w0 b g cap sb z lb la va am al sf cf fo D M L n tx w) (ht : t < 2) : 19 * (al t).length ≤ 262144 := (h.ac t ht).few (h.st.ok.size _ (fA_lt ht h.len))
theorem KA.grow (h : KA B w0 b g cap sb z lb la va am al sf cf fo D M L n tx w) (hb : Below w.heap.size w w') : KA B w0 b g cap sb z lb la va am al sf cf fo D M L n tx w' :=
  ⟨h.st.grow hb, h.m.below hb, fun t ht => (h.lg t ht).below hb, h.lB, h.ne, h.ac, h.len, h.bd, h.hz, h.e1, h.cfg⟩
theorem KO.grow {inn : Int} (h : KO B w0 b g cap z la va am al sf cf fo D M n tx inn w) (hb : Below w.heap.size w w') : KO B w0 b g cap z la va am al sf cf fo D M n tx inn w' :=
  ⟨h.on.grow hb, h.m.below hb, h.ok, h.few, h.len, h.rs, h.bd, h.hz, h.e1, h.ar, h.cfg⟩
theorem KA.mono (h : KA B w0 b g cap sb z lb la va am al sf cf fo D M L n tx w) {M' : Nat} (hM : M ≤ M') : KA B w0 b g cap sb z lb la va am al sf cf fo D M' L n tx w :=
  ⟨h.st.mono hM, h.m, h.lg, h.lB, h.ne, h.ac, h.len, fun j => Nat.le_trans (h.bd j) hM, h.hz, h.e1, h.cfg⟩
theorem KO.mono {inn : Int} (h : KO B w0 b g cap z la va am al sf cf fo D M n tx inn w) {M' : Nat} (hM : M ≤ M') : KO B w0 b g cap z la va am al sf cf fo D M' n tx inn w :=
  ⟨h.on, h.m, h.ok, h.few, h.len, h.rs.mono hM, fun j => Nat.le_trans (h.bd j) hM, h.hz, h.e1, h.ar, h.cfg⟩
/-- A commit that was refused. -/
theorem KA.long (h : KA B w0 b g cap sb z lb la va am al sf cf fo D M L n tx w) (hst : StA B w0 b g cap sb 2 D M lb L' n tx w') (hc : Chg (SA 2 lb b g sb) w w') : KA B w0 b g cap sb z lb la va am al sf cf fo D M L' n tx w' :=
  ⟨hst, h.m.keepSA h.st hc, fun t ht => (h.lg t ht).keep hc ((h.lg t ht).notSA h.st) h.st.muts, h.lB, h.ne, h.ac, h.len, h.bd, h.hz, h.e1, h.cfg⟩
/-- One that came through; the law has its text. -/
theorem KA.done (h : KA B w0 b g cap sb z lb la va am al sf cf fo D M L n tx w) (ht : t < 2) (hst : StA B w0 b g cap sb 2 D' (M + 1) lb L' (upd n (t + 1) (n (t + 1) + 1)) (upd tx (t + 1) u) w') (ha : Alive D D' (fiS (t + 1))) (hc : Chg (SA 2 lb b g sb) w w') :
    KM B z (fun t => some (la t)) va am sf cf fo w' ∧ KA B w0 b g cap sb z lb la va am al sf (upd cf t u) fo D' (M + 1) L' (upd n (t + 1) (n (t + 1) + 1)) (upd tx (t + 1) u) (w'.setCell ⟨z + 5, t, none⟩ (.string u)) := by
  have hm := h.m.keepSA h.st hc
  obtain ⟨q1, q2, q3, q4⟩ := hm.setC 5 t (by omega) (.string u)
  refine ⟨hm, hst.keepG q1 q2 q3 q4, hm.setCf ht u, fun s hs => ((h.lg s hs).keep hc ((h.lg s hs).notSA h.st) h.st.muts).keepG q1 q2 q3, h.lB, h.ne, fun s hs => ?_, ha.len.trans h.len, fun j => ?_, fun i hi => ?_, ?_, fun s hs => ?_⟩
  · have := fA_out s hs (t + 1) (by omega)
    rw [ha.other _ this.1 this.2]
    exact h.ac s hs
  · unfold upd
    split
    · have := h.bd (t + 1); omega
    · have := h.bd j; omega
  · rw [upd_other _ _ (by omega), upd_other _ _ (by omega)]; exact h.hz i hi
  · rw [upd_other _ _ (by omega)]; exact h.e1
  · by_cases e : s = t
    · subst e; rw [upd_same, upd_same]
    · rw [upd_other _ _ (by omega), upd_other _ _ e]; exact h.cfg s hs
/-- One in which the power went; the law has its text as in flight. -/
theorem KA.goneC (h : KA B w0 b g cap sb z lb la va am al sf cf fo D M L n tx w) (ht : t < 2) (hat : At B w0 b g cap D' w') (hg : GoneD D D' (fiS (t + 1))) (hfw : FewS D') (hrs : RsA D'.l (M + 1) 2 n' tx') (hcs : n' = n ∧ tx' = tx ∨ n' = upd n (t + 1) (n (t + 1) + 1) ∧ tx' = upd tx (t + 1) u) (hc : Chg (SA 2 lb b g sb) w w') :
    KM B z (fun t => some (la t)) va am sf cf fo w' ∧ KO B w0 b g cap z la va am al sf cf (upd fo t u) D' (M + 1) n' tx' (t : Int) (w'.setCell ⟨z + 6, t, none⟩ (.string u)) := by
  have hm := h.m.keepSA h.st hc
  obtain ⟨q1, q2, q3, q4⟩ := hm.setC 6 t (by omega) (.string u)
  refine ⟨hm, hat.keepG q1 q2 q3 q4, hm.setFo ht u, hg.ok, hfw, hg.len.trans h.len, hrs, fun j => ?_, fun i hi => ?_, ?_, fun s hs => ?_, fun s hs => ?_⟩
  · rcases hcs with ⟨rfl, _⟩ | ⟨rfl, _⟩
    · have := h.bd j; omega
    · unfold upd
      split
      · have := h.bd (t + 1); omega
      · have := h.bd j; omega
  · rcases hcs with ⟨rfl, rfl⟩ | ⟨rfl, rfl⟩
    · exact h.hz i hi
    · rw [upd_other _ _ (by omega), upd_other _ _ (by omega)]; exact h.hz i hi
  · rcases hcs with ⟨rfl, _⟩ | ⟨rfl, _⟩
    · exact h.e1
    · rw [upd_other _ _ (by omega)]; exact h.e1
  · have := fA_out s hs (t + 1) (by omega)
    obtain ⟨cs, e⟩ := hg.other _ this.1 this.2 (fA_lt hs h.len)
    rw [e]
    exact (h.ac s hs).crash (by have := h.fit hs; omega) cs
  · rcases hcs with ⟨rfl, rfl⟩ | ⟨rfl, rfl⟩
    · exact .inl (h.cfg s hs)
    · by_cases e : s = t
      · subst e; exact .inr ⟨rfl, by rw [upd_same, upd_same]⟩
      · exact .inl (by rw [upd_other _ _ (by omega)]; exact h.cfg s hs)
/-- A call of an audit's in which nothing came of it. -/
theorem KA.same (h : KA B w0 b g cap sb z lb la va am al sf cf fo D M L n tx w) (ht : t < 2) (hl : IsAL w' (la t) b (fA t) 262144 (al t) false) (hd : IsDisk w' b g cap D) (hc : Chg (fun k => k = la t ∨ k = b ∨ k = g) w w') : KA B w0 b g cap sb z lb la va am al sf cf fo D M L n tx w' := by
  have hn := h.lg t ht
  refine ⟨?_, h.m.keepAL h.st.on hn hc, fun s hs => ?_, h.lB, h.ne, h.ac, h.len, h.bd, h.hz, h.e1, h.cfg⟩
  · have hbg := h.st.st.ne h.st.on.disk
    refine ⟨⟨hd, h.st.on.below.trans (hc.below (Nat.le_trans h.st.on.le h.st.on.below.size) (fun k hk e => by have := h.lB t ht; have := h.st.on.bB; have := h.st.on.gB; omega)), h.st.on.bB, h.st.on.gB, h.st.on.le⟩, h.st.st.keep hc (fun e => ?_), h.st.sB, fun i hi => ⟨(h.st.lg i hi).1.keep hc (fun e => ?_), (h.st.lg i hi).2⟩, h.st.inj, h.st.t8, h.st.ok, h.st.al, h.st.few, h.st.kp⟩
    · rcases e with e | e | e
      · exact hn.notSA h.st (.inr (.inr (.inl e.symm)))
      · exact hbg.1 e
      · exact hbg.2 e
    · have := (h.st.lg i hi).1.ne h.st.on.disk
      rcases e with e | e | e
      · exact hn.notSA h.st (.inr (.inr (.inr ⟨i, hi, e.symm⟩)))
      · exact this.1 e
      · exact this.2 e
  · by_cases e : s = t
    · subst e; exact hl
    · have h1 := h.neT hs ht e
      have h2 := (h.lg s hs).ne h.st.on.disk
      exact (h.lg s hs).keep hc (by omega) (hn.muts3 h.st.on.disk)
/-- A call of an audit's that came through. -/
theorem KA.auditSt (h : KA B w0 b g cap sb z lb la va am al sf cf fo D M L n tx w) (ht : t < 2) (hd : IsDisk w' b g cap D') (hc : Chg (fun k => k = la t ∨ k = b ∨ k = g) w w') (ha : AliveA D D' (fA t)) {ss : List ByteArray} {k : Nat} (hx : AC (D'.l.getD (fA t) Fl.zero) ss k) : StA B w0 b g cap sb 2 D' M lb L n tx w' :=
  h.st.aliveA ha (fA_out t ht) (h.st.few.aliveA ha hx (fA_lt ht h.len)) hd hc (fun k e h1 h2 => by
    rcases e with e | e | e
    · rw [e]; exact (h.lg t ht).notSA h.st
    · exact absurd e h1
    · exact absurd e h2) (fun k e => by have := h.lB t ht; have := h.st.on.bB; have := h.st.on.gB; omega)
theorem KA.synced (h : KA B w0 b g cap sb z lb la va am al sf cf fo D M L n tx w) (ht : t < 2) (hl : IsAL w' (la t) b (fA t) 262144 (al t) false) (hd : IsDisk w' b g cap D') (hc : Chg (fun k => k = la t ∨ k = b ∨ k = g) w w') (ha : AliveA D D' (fA t)) (hx : AC (D'.l.getD (fA t) Fl.zero) (al t) (al t).length) :
    KM B z (fun t => some (la t)) va am sf cf fo w' ∧ KA B w0 b g cap sb z lb la va am al (upd sf t (al t).length) cf fo D' M L n tx (w'.setCell ⟨z + 4, t, none⟩ (.int .i64 ((al t).length : Nat))) := by
  have hn := h.lg t ht
  have hm := h.m.keepAL h.st.on hn hc
  have hst := h.auditSt ht hd hc ha hx
  obtain ⟨q1, q2, q3, q4⟩ := hm.setC 4 t (by omega) (.int .i64 ((al t).length : Nat))
  refine ⟨hm, hst.keepG q1 q2 q3 q4, hm.setSf ht _, fun s hs => ?_, h.lB, h.ne, fun s hs => ?_, ha.len.trans h.len, h.bd, h.hz, h.e1, h.cfg⟩
  · by_cases e : s = t
    · subst e; exact hl.keepG q1 q2 q3
    · have h1 := h.neT hs ht e
      have h2 := (h.lg s hs).ne h.st.on.disk
      exact ((h.lg s hs).keep hc (by omega) (hn.muts3 h.st.on.disk)).keepG q1 q2 q3
  · by_cases e : s = t
    · subst e; rw [upd_same]; exact hx
    · rw [upd_other _ _ e, ha.other _ (fA_far e)]; exact h.ac s hs
/-- A sync in which the power went. -/
theorem KA.goneS (h : KA B w0 b g cap sb z lb la va am al sf cf fo D M L n tx w) (ht : t < 2) (hd : IsDisk w' b g cap D') (hc : Chg (fun k => k = la t ∨ k = b ∨ k = g) w w') (hg : GoneA D D' (fA t)) {j : Nat} (j1 : sf t ≤ j) (j2 : j ≤ (al t).length) (hr : ARest (D'.l.getD (fA t) Fl.zero) ((al t).take j)) : KO B w0 b g cap z la va am al sf cf fo D' M n tx (-1) w' := by
  refine ⟨⟨hd, h.st.on.below.trans (hc.below (Nat.le_trans h.st.on.le h.st.on.below.size) (fun k hk e => by have := h.lB t ht; have := h.st.on.bB; have := h.st.on.gB; omega)), h.st.on.bB, h.st.on.gB, h.st.on.le⟩, h.m.keepAL h.st.on (h.lg t ht) hc, hg.ok, FewS.goneA hg hr.ws, hg.len.trans h.len, h.st.goneA hg (fA_out t ht), h.bd, h.hz, h.e1, fun s hs => ?_, fun s hs => .inl (h.cfg s hs)⟩
  by_cases e : s = t
  · subst e; exact ⟨j, j1, j2, hr⟩
  · obtain ⟨cs, q⟩ := hg.other _ (fA_far e) (fA_lt hs h.len)
    rw [q]
    exact (h.ac s hs).crash (by have := h.fit hs; omega) cs
/-- The power goes between two calls. -/
theorem KA.died (h : KA B w0 b g cap sb z lb la va am al sf cf fo D M L n tx w) (css : List (List Int)) (hd : IsDisk w' b g cap (D.died css)) (hc : Chg (fun k => k = b ∨ k = g) w w') : KO B w0 b g cap z la va am al sf cf fo (D.died css) M n tx (-1) w' := by
  have hdl := died_l D css
  refine ⟨h.st.on.chg hd hc, h.m.keepBG h.st.on hc, h.st.ok.died css, FewS.died D css, hdl.1.trans h.len, h.st.rests.died hdl, h.bd, h.hz, h.e1, fun s hs => ?_, fun s hs => .inl (h.cfg s hs)⟩
  obtain ⟨cs, q⟩ := hdl.2 _ (fA_lt hs h.len)
  rw [q]
  exact (h.ac s hs).crash (by have := h.fit hs; omega) cs
/-- A text that was laid down: the log is ahead of what the law keeps. -/
theorem KA.laid (h : KA B w0 b g cap sb z lb la va am al sf cf fo D M L n tx w) (ht : t < 2) {ss : List ByteArray} (hl : IsAL w' (la t) b (fA t) 262144 ss false) (hd : IsDisk w' b g cap D') (hc : Chg (fun k => k = la t ∨ k = b ∨ k = g) w w') (ha : AliveA D D' (fA t)) (hx : AC (D'.l.getD (fA t) Fl.zero) ss (sf t)) :
    KA B w0 b g cap sb z lb la va am (upd al t ss) sf cf fo D' M L n tx w' := by
  have hn := h.lg t ht
  refine ⟨h.auditSt ht hd hc ha hx, h.m.keepAL h.st.on hn hc, fun s hs => ?_, h.lB, h.ne, fun s hs => ?_, ha.len.trans h.len, h.bd, h.hz, h.e1, h.cfg⟩
  · by_cases e : s = t
    · subst e; rw [upd_same]; exact hl
    · have h1 := h.neT hs ht e
      have h2 := (h.lg s hs).ne h.st.on.disk
      rw [upd_other _ _ e]
      exact (h.lg s hs).keep hc (by omega) (hn.muts3 h.st.on.disk)
  · by_cases e : s = t
    · subst e; rw [upd_same]; exact hx
    · rw [upd_other _ _ e, ha.other _ (fA_far e)]; exact h.ac s hs
/-- A text in whose laying down the power went. -/
theorem KA.goneT (h : KA B w0 b g cap sb z lb la va am al sf cf fo D M L n tx w) (ht : t < 2) {ss : List ByteArray} (hd : IsDisk w' b g cap D') (hc : Chg (fun k => k = la t ∨ k = b ∨ k = g) w w') (hg : GoneA D D' (fA t)) {j : Nat} (j1 : sf t ≤ j) (j2 : j ≤ ss.length) (hr : ARest (D'.l.getD (fA t) Fl.zero) (ss.take j)) : KO B w0 b g cap z la va am (upd al t ss) sf cf fo D' M n tx (-1) w' := by
  refine ⟨⟨hd, h.st.on.below.trans (hc.below (Nat.le_trans h.st.on.le h.st.on.below.size) (fun k hk e => by have := h.lB t ht; have := h.st.on.bB; have := h.st.on.gB; omega)), h.st.on.bB, h.st.on.gB, h.st.on.le⟩, h.m.keepAL h.st.on (h.lg t ht) hc, hg.ok, FewS.goneA hg hr.ws, hg.len.trans h.len, h.st.goneA hg (fA_out t ht), h.bd, h.hz, h.e1, fun s hs => ?_, fun s hs => .inl (h.cfg s hs)⟩
  by_cases e : s = t
  · subst e; rw [upd_same]; exact ⟨j, j1, j2, hr⟩
  · obtain ⟨cs, q⟩ := hg.other _ (fA_far e) (fA_lt hs h.len)
    rw [upd_other _ _ e, q]
    exact (h.ac s hs).crash (by have := h.fit hs; omega) cs
end
section
variable {B b g cap sb z t M : Nat} {w0 w w1 w2 : World} {la : Nat → Nat} {lp : Nat → Option Nat} {va : Nat → Value} {am al : Nat → List ByteArray} {sf : Nat → Nat} {cf fo : Nat → ByteArray} {D : Dk} {lb : Nat → Nat} {L : Nat → Lg} {n : Nat → Nat} {tx : Nat → ByteArray} {v' : Value} {ss : List ByteArray}
omit [Avoid] in
/- Behind an append to a row of texts, and the store of it. -/
theorem KM.app {A : Avoid} (h : @KM A B z lp va am sf cf fo w1) (ht : t < 2) (hB : A.B ≤ w2.heap.size) (ho : OwnsS w2 B v' ss) (hg : w1.grownBy w2 (va t).ownBlock) (hv : v'.ownBlock = (va t).ownBlock ∨ v'.ownBlock = some w1.heap.size) :
    @KM (gNext A (va t) v' w2 hB (fun k hk => (ho.block hk).2)) B z lp (upd va t v') (upd am t ss) sf cf fo (w2.setCell ⟨z + 3, t, none⟩ v') := by
  have hne := fun {s : Nat} (hs : s < 2) {k : Nat} (hk : (va s).ownBlock = some k) => @KM.rowNe A _ _ _ _ _ _ _ _ _ _ h hs k hk
  have hlt : ∀ i, (i = 0 ∨ i = 3 ∨ i = 4 ∨ i = 5 ∨ i = 6) → z + i < w1.heap.size := fun i hi => (@KM.of A _ _ _ _ _ _ _ _ _ h _ (@KM.zS A _ _ _ _ _ _ _ _ _ h i hi)).lt
  have hbl : ∀ i, (i = 0 ∨ i = 3 ∨ i = 4 ∨ i = 5 ∨ i = 6) → w2.heap[z + i]? = w1.heap[z + i]? := fun i hi => hg.block _ (hlt i hi) (fun e => hne ht e.symm i hi rfl)
  have hv' : ∀ k, v'.ownBlock = some k → ∀ i, (i = 0 ∨ i = 3 ∨ i = 4 ∨ i = 5 ∨ i = 6) → k ≠ z + i := by
    intro k hk i hi
    rcases hv with q | q
    · exact hne ht (q ▸ hk) i hi
    · rw [q] at hk
      have := Option.some.inj hk
      have := hlt i hi
      omega
  obtain ⟨hlg, htx, hsf, hcf, hfo, hrows, hrowS, hap, hzS, hzB, hof, hge⟩ := h
  have hoth : ∀ s, s < 2 → s ≠ t → ∀ k, (va s).ownBlock = some k → (va t).ownBlock ≠ some k := by
    intro s hs e k hk
    rcases two hs with rfl | rfl <;> rcases two ht with rfl | rfl
    · exact absurd rfl e
    · exact hap k hk
    · exact fun q => hap k q hk
    · exact absurd rfl e
  have hlts : ∀ s, s < 2 → ∀ k, (va s).ownBlock = some k → k < w1.heap.size := fun s hs k hk => ((hrows s hs).block hk).2
  refine @KM.mk (gNext A (va t) v' w2 hB _) _ _ _ _ _ _ _ _ _ ?_ ?_ ?_ ?_ ?_ ?_ ?_ ?_ ?_ hzB ?_ ?_
  · exact (setO w2 (z + 3) t z v' (by omega)).trans ((hbl 0 (by omega)).trans hlg)
  · rw [setCell_blk w2 (z + 3) t v' ((hbl 3 (by omega)).trans htx)]
    rcases two ht with rfl | rfl <;> rfl
  · exact (setO w2 (z + 3) t (z + 4) v' (by omega)).trans ((hbl 4 (by omega)).trans hsf)
  · exact (setO w2 (z + 3) t (z + 5) v' (by omega)).trans ((hbl 5 (by omega)).trans hcf)
  · exact (setO w2 (z + 3) t (z + 6) v' (by omega)).trans ((hbl 6 (by omega)).trans hfo)
  · intro s hs
    by_cases e : s = t
    · subst e
      rw [upd_same, upd_same]
      refine ⟨ho.1, ?_⟩
      rcases ho.2 with q | ⟨g, c, cur, q1, q2, q3, q4⟩
      · exact .inl q
      · exact .inr ⟨g, c, cur, q1, q2, (setO w2 (z + 3) s g v' (hv' g (by rw [q1]; rfl) 3 (by omega))).trans q3, q4⟩
    · rw [upd_other _ _ e, upd_other _ _ e]
      have h1 := hrows s hs
      refine ⟨h1.1, ?_⟩
      rcases h1.2 with q | ⟨g, c, cur, q1, q2, q3, q4⟩
      · exact .inl q
      · have hk : (va s).ownBlock = some g := by rw [q1]; rfl
        exact .inr ⟨g, c, cur, q1, q2, (setO w2 (z + 3) t g v' (hne hs hk 3 (by omega))).trans ((hg.block g (hlts s hs g hk) (fun e2 => hoth s hs e g hk e2.symm)).trans q3), q4⟩
  · intro s hs k hk
    by_cases e : s = t
    · subst e
      rw [upd_same] at hk
      exact ⟨.inr hk, hv' k hk 5 (by omega), hv' k hk 6 (by omega)⟩
    · rw [upd_other _ _ e] at hk
      exact ⟨.inl ⟨(hrowS s hs k hk).1, hoth s hs e k hk⟩, (hrowS s hs k hk).2⟩
  · intro k h0 h1
    have hx : ∀ s, s < 2 → s ≠ t → ∀ k, (va s).ownBlock = some k → v'.ownBlock ≠ some k := by
      intro s hs e k hk q
      rcases hv with r | r
      · exact hoth s hs e k hk (r ▸ q)
      · rw [r] at q
        have := Option.some.inj q
        have := hlts s hs k hk
        omega
    rcases two ht with rfl | rfl
    · rw [upd_same] at h0
      rw [upd_other _ _ (by decide)] at h1
      exact hx 1 (by decide) (by decide) k h1 h0
    · rw [upd_other _ _ (by decide)] at h0
      rw [upd_same] at h1
      exact hx 0 (by decide) (by decide) k h0 h1
  · exact fun i hi => .inl ⟨hzS i hi, fun e => hne ht e i hi rfl⟩
  · intro k hk
    refine OfK.set ?_ v'
    rcases hk with ⟨q1, q2⟩ | q
    · exact (hof k q1).same (hg.block k (hof k q1).lt (fun e => q2 e.symm))
    · rcases ho.2 with ⟨r, _⟩ | ⟨g, c, cur, r1, r2, r3, _⟩
      · rw [r] at q; cases q
      · rw [r1] at q
        obtain rfl : g = k := Option.some.inj q
        exact ⟨cur, _, r3, .inl rfl⟩
  · intro k hk
    rcases hk with ⟨q1, _⟩ | q
    · exact hge k q1
    · exact (ho.block q).1
omit [Avoid] in
theorem KM.appC {A : Avoid} (h : @KM A B z lp va am sf cf fo w1) (ht : t < 2) (hB : A.B ≤ w2.heap.size) (ho : OwnsS w2 B v' ss) (hg : w1.grownBy w2 (va t).ownBlock) (hv : v'.ownBlock = (va t).ownBlock ∨ v'.ownBlock = some w1.heap.size) :
    Chg (fun k => (va t).ownBlock = some k ∨ k = z + 3) w1 (w2.setCell ⟨z + 3, t, none⟩ v') ∧ (∀ k, (va t).ownBlock = some k ∨ k = z + 3 → A.S k) ∧ (∀ k, (va t).ownBlock = some k ∨ k = z + 3 → OfK w1 k) ∧ (∀ k, (va t).ownBlock = some k ∨ k = z + 3 → B ≤ k) ∧
      (∀ k, (gNext A (va t) v' w2 hB (fun k hk => (ho.block hk).2)).S k → A.S k ∨ w1.heap.size ≤ k) := by
  have c1 : Chg (fun k => (va t).ownBlock = some k ∨ k = z + 3) w1 w2 := ⟨hg.os, hg.tape, hg.output, hg.size, fun k hk hn => hg.block k hk (fun e => hn (.inl e.symm))⟩
  obtain ⟨hlg, htx, hsf, hcf, hfo, hrows, hrowS, hap, hzS, hzB, hof, hge⟩ := h
  have hS : ∀ k, (va t).ownBlock = some k ∨ k = z + 3 → A.S k := fun k e => e.elim (fun q => (hrowS t ht k q).1) (fun q => by rw [q]; exact hzS 3 (by omega))
  refine ⟨c1.trans (Chg.setCell (fun k => (va t).ownBlock = some k ∨ k = z + 3) w2 (.inr rfl) v'), hS, fun k e => hof k (hS k e), fun k e => hge k (hS k e), fun k hk => ?_⟩
  rcases hk with ⟨q, _⟩ | q
  · exact .inl q
  · rcases hv with r | r
    · exact .inl (hrowS t ht k (r ▸ q)).1
    · rw [r] at q
      exact .inr (by have := Option.some.inj q; omega)
omit [Avoid] in
/- The law has the text, too. -/
theorem KA.app {A : Avoid} (h : @KA A B w0 b g cap sb z lb la va am al sf cf fo D M L n tx w1) (ht : t < 2) (hB : A.B ≤ w2.heap.size) (ho : OwnsS w2 B v' ss) (hg : w1.grownBy w2 (va t).ownBlock) (hv : v'.ownBlock = (va t).ownBlock ∨ v'.ownBlock = some w1.heap.size) :
    @KA (gNext A (va t) v' w2 hB (fun k hk => (ho.block hk).2)) B w0 b g cap sb z lb la (upd va t v') (upd am t ss) al sf cf fo D M L n tx (w2.setCell ⟨z + 3, t, none⟩ v') := by
  obtain ⟨st, m, lg, lB, ne, ac, len, bd, hz, e1, cfg⟩ := h
  obtain ⟨c1, c2, c3, c4, c5⟩ := KM.appC m ht hB ho hg hv
  have hsz : w2.heap.size ≤ (w2.setCell ⟨z + 3, t, none⟩ v').heap.size := by simp [World.setCell]
  exact @KA.mk (gNext A (va t) v' w2 hB _) _ _ _ _ _ _ _ _ _ _ _ _ _ _ _ _ _ _ _ _ _ (StA.move _ st c1 c2 c3 c4 c5 hsz) (KM.app m ht hB ho hg hv) (fun s hs => IsAL.move _ (lg s hs) c1 c2 c3 c5) lB ne ac len bd hz e1 cfg
omit [Avoid] in
theorem KO.app {A : Avoid} {inn : Int} (h : @KO A B w0 b g cap z la va am al sf cf fo D M n tx inn w1) (ht : t < 2) (hB : A.B ≤ w2.heap.size) (ho : OwnsS w2 B v' ss) (hg : w1.grownBy w2 (va t).ownBlock) (hv : v'.ownBlock = (va t).ownBlock ∨ v'.ownBlock = some w1.heap.size) :
    @KO (gNext A (va t) v' w2 hB (fun k hk => (ho.block hk).2)) B w0 b g cap z la (upd va t v') (upd am t ss) al sf cf fo D M n tx inn (w2.setCell ⟨z + 3, t, none⟩ v') := by
  obtain ⟨on, m, ok, few, len, rs, bd, hz, e1, ar, cfg⟩ := h
  obtain ⟨c1, c2, c3, c4, c5⟩ := KM.appC m ht hB ho hg hv
  have hsz : w2.heap.size ≤ (w2.setCell ⟨z + 3, t, none⟩ v').heap.size := by simp [World.setCell]
  exact @KO.mk (gNext A (va t) v' w2 hB _) _ _ _ _ _ _ _ _ _ _ _ _ _ _ _ _ _ _ _ (At.move _ on c1 c2 c3 c4 c5 hsz) (KM.app m ht hB ho hg hv) ok few len rs bd hz e1 ar cfg
end
end Go.Proofs.YtilpbjcbffbjeaaGreatDoor
namespace Go.Proofs.YtilpbjcbffbjeaaGreatDoor
set_option linter.unusedVariables false
set_option linter.unusedSectionVars false
set_option maxRecDepth 100000
open Go.RowKit
/-- At the beginning: the first k audits are open. -/
structure KI [Avoid] (B : Nat) (w0 : World) (b g cap sb z : Nat) (lb la : Nat → Nat) (va : Nat → Value) (k : Nat) (D : Dk) (L : Nat → Lg) (n : Nat → Nat) (tx : Nat → ByteArray) (w : World) : Prop where
  st : StA B w0 b g cap sb 2 D 2 lb L n tx w
  m : KM B z (fun t => if t < k then some (la t) else none) va (fun _ => []) (fun _ => 0) (fun _ => ⟨#[]⟩) (fun _ => ⟨#[]⟩) w
  lg : ∀ t, t < k → IsAL w (la t) b (fA t) 262144 [] false ∧ B ≤ la t
  inj : ∀ s t, s < t → t < k → la s < la t
  ac : ∀ t, t < k → AC (D.l.getD (fA t) Fl.zero) [] 0
  zr : ∀ t, k ≤ t → t < 2 → D.l.getD (fA t) Fl.zero = Fl.zero
  len : D.l.length = 8
  ar : D.armed = 0
/-- Behind the power's going: the store is open, the audits from k on are not. -/
structure KT [Avoid] (B : Nat) (w0 : World) (b g cap sb z : Nat) (lb : Nat → Nat) (la : Nat → Nat) (va : Nat → Value) (al : Nat → List ByteArray) (sf : Nat → Nat) (cf fo : Nat → ByteArray) (k : Nat) (D : Dk) (M : Nat) (L : Nat → Lg) (n : Nat → Nat) (tx : Nat → ByteArray) (inn : Int) (w : World) : Prop where
  st : StA B w0 b g cap sb 2 D M lb L n tx w
  m : KM B z (fun t => some (la t)) va al sf cf fo w
  ar : ∀ t, k ≤ t → t < 2 → ∃ j, sf t ≤ j ∧ j ≤ (al t).length ∧ ARest (D.l.getD (fA t) Fl.zero) ((al t).take j)
  len : D.l.length = 8
  am : D.armed = 0
  cfg : ∀ t, t < 2 → tx (t + 1) = cf t ∨ (inn = (t : Int) ∧ tx (t + 1) = fo t)
variable [Avoid]
section
variable {B b g cap sb z k M lp : Nat} {w0 w w' : World} {la : Nat → Nat} {va : Nat → Value} {al : Nat → List ByteArray} {sf : Nat → Nat} {cf fo : Nat → ByteArray} {D D' : Dk} {lb : Nat → Nat} {L : Nat → Lg} {n : Nat → Nat} {tx : Nat → ByteArray} {inn : Int}
theorem KI.next (h : KI B w0 b g cap sb z lb la va k D L n tx w) (hk : k < 2) (hd : IsDisk w' b g cap D') (hc : Chg (fun j => j = b ∨ j = g) w w') (hlp : w.heap.size ≤ lp) (hl : IsAL w' lp b (fA k) 262144 [] false) (ha : AliveA D D' (fA k)) (hx : AC (D'.l.getD (fA k) Fl.zero) [] 0) :
    KM B z (fun t => if t < k then some (la t) else none) va (fun _ => []) (fun _ => 0) (fun _ => ⟨#[]⟩) (fun _ => ⟨#[]⟩) w' ∧ KI B w0 b g cap sb z lb (upd la k lp) va (k + 1) D' L n tx (w'.setCell ⟨z, k, none⟩ (.pointer (some ⟨lp, 0, none⟩))) := by
  have hm := h.m.keepBG h.st.on hc
  obtain ⟨q1, q2, q3, q4⟩ := hm.setC 0 k (by omega) (.pointer (some ⟨lp, 0, none⟩))
  have hst : StA B w0 b g cap sb 2 D' 2 lb L n tx w' := h.st.aliveA ha (fA_out k hk) (h.st.few.aliveA ha hx (fA_lt hk h.len)) hd hc (fun j e h1 h2 => by omega) (fun j e => by have := h.st.on.bB; have := h.st.on.gB; omega)
  have hlt : ∀ t, t < k → la t < w.heap.size := fun t ht => (h.lg t ht).1.lt
  have hB : B ≤ w.heap.size := Nat.le_trans h.st.on.le h.st.on.below.size
  have hm2 := hm.setLg hk lp
  rw [show upd (fun t => if t < k then some (la t) else none) k (some lp) = (fun t => if t < k + 1 then some (upd la k lp t) else none) by
    funext t
    unfold upd
    by_cases e : t = k
    · rw [if_pos e, if_pos (by omega), if_pos e]
    · rw [if_neg e, if_neg e]
      show (if t < k then some (la t) else none) = _
      by_cases h1 : t < k
      · rw [if_pos h1, if_pos (by omega)]
      · rw [if_neg h1, if_neg (by omega)]] at hm2
  refine ⟨hm, hst.keepG q1 q2 q3 q4, hm2, fun t ht => ?_, fun s t hs ht => ?_, fun t ht => ?_, fun t h1 h2 => ?_, ha.len.trans h.len, ha.ar h.ar⟩
  · by_cases e : t = k
    · subst e
      rw [upd_same]
      exact ⟨hl.keepG q1 q2 q3, by omega⟩
    · rw [upd_other _ _ e]
      have h1 := h.lg t (by omega)
      have h2 := h1.1.ne h.st.on.disk
      exact ⟨(h1.1.keep hc (by omega) h.st.on.disk.muts).keepG q1 q2 q3, h1.2⟩
  · by_cases e : t = k
    · subst e
      rw [upd_same, upd_other _ _ (by omega)]
      have := hlt s hs
      omega
    · rw [upd_other _ _ e, upd_other _ _ (by omega)]
      exact h.inj s t hs (by omega)
  · by_cases e : t = k
    · subst e; exact hx
    · rw [ha.other _ (fA_far e)]; exact h.ac t (by omega)
  · rw [ha.other _ (fA_far (by omega))]; exact h.zr t (by omega) h2
theorem KI.all (h : KI B w0 b g cap sb z lb la va 2 D L n tx w) (hbd : ∀ j, n j ≤ 2) (hz : ∀ i, 2 < i → n i = 0 ∧ tx i = ⟨#[]⟩) (e1 : 1 ≤ n 0) (ht : ∀ t, t < 2 → tx (t + 1) = ⟨#[]⟩) : KA B w0 b g cap sb z lb la va (fun _ => []) (fun _ => []) (fun _ => 0) (fun _ => ⟨#[]⟩) (fun _ => ⟨#[]⟩) D 2 L n tx w := by
  have hm := h.m
  refine ⟨h.st, ⟨?_, hm.tx, hm.sf, hm.cf, hm.fo, hm.rows, hm.rowS, hm.apart, hm.zS, hm.zB, hm.of, hm.ge⟩, fun t ht => (h.lg t ht).1, fun t ht => (h.lg t ht).2, fun e => by have := h.inj 0 1 (by decide) (by decide); omega, fun t ht => h.ac t ht, h.len, hbd, hz, e1, ht⟩
  have := hm.lg
  exact this
theorem KA.arm {am : Nat → List ByteArray} (h : KA B w0 b g cap sb z lb la va am al sf cf fo D M L n tx w) (x : Nat) (css : List (List Int)) (hx : x ≤ 9223372036854775807) (hcs : ∀ i, (css.getD i []).length ≤ 140737488355328) (hd : IsDisk w' b g cap ⟨D.l, x, css, D.dead⟩) (hc : Chg (fun k => k = b) w w') : KA B w0 b g cap sb z lb la va am al sf cf fo ⟨D.l, x, css, D.dead⟩ M L n tx w' := by
  have hc2 : Chg (fun k => k = b ∨ k = g) w w' := hc.mono fun k _ e => .inl e
  exact ⟨h.st.armK x css hx hcs hd hc, h.m.keepBG h.st.on hc2, fun t ht => (h.lg t ht).keep hc2 (by have := (h.lg t ht).ne h.st.on.disk; omega) h.st.on.disk.muts, h.lB, h.ne, h.ac, h.len, h.bd, h.hz, h.e1, h.cfg⟩
theorem KO.revive {am : Nat → List ByteArray} (h : KO B w0 b g cap z la va am al sf cf fo D M n tx inn w) (hd : IsDisk w' b g cap ⟨D.l, 0, D.ch, false⟩) (hc : Chg (fun k => k = b) w w') : KO B w0 b g cap z la va am al sf cf fo ⟨D.l, 0, D.ch, false⟩ M n tx inn w' := by
  have hc2 : Chg (fun k => k = b ∨ k = g) w w' := hc.mono fun k _ e => .inl e
  exact ⟨h.on.chg hd hc2, h.m.keepBG h.on hc2, ⟨h.ok.n, h.ok.pos, h.ok.size, h.ok.many, Nat.zero_le _, h.ok.chl⟩, h.few, h.len, h.rs, h.bd, h.hz, h.e1, h.ar, h.cfg⟩
/-- The store was opened. -/
theorem KO.opened (h : KO B w0 b g cap z la va al al sf cf fo D M n tx inn w) (hs : StA B w0 b g cap sb 2 D' (M + 1) lb L (upd n 0 (n 0 + 1)) (upd tx 0 ⟨#[]⟩) w') (hc : Chg (fun k => k = b ∨ k = g) w w') (hl : LenO 2 D.l D'.l) (har : D'.armed = 0) : KT B w0 b g cap sb z lb la va al sf cf fo 0 D' (M + 1) L (upd n 0 (n 0 + 1)) (upd tx 0 ⟨#[]⟩) inn w' := by
  refine ⟨hs, h.m.keepBG h.on hc, fun t _ ht => ?_, hl.len.trans h.len, har, fun t ht => ?_⟩
  · rw [hl.oth _ (fA_out t ht)]; exact h.ar t ht
  · rw [upd_other _ _ (by omega)]; exact h.cfg t ht
theorem KT.next (h : KT B w0 b g cap sb z lb la va al sf cf fo k D M L n tx inn w) (hk : k < 2) (hd : IsDisk w' b g cap D') (hc : Chg (fun j => j = b ∨ j = g) w w') (ha : AliveA D D' (fA k)) {ss : List ByteArray} {j : Nat} (hx : AC (D'.l.getD (fA k) Fl.zero) ss j) : KT B w0 b g cap sb z lb la va al sf cf fo (k + 1) D' M L n tx inn w' := by
  refine ⟨h.st.aliveA ha (fA_out k hk) (h.st.few.aliveA ha hx (fA_lt hk h.len)) hd hc (fun j e h1 h2 => by omega) (fun j e => by have := h.st.on.bB; have := h.st.on.gB; omega), h.m.keepBG h.st.on hc, fun t h1 h2 => ?_, ha.len.trans h.len, ha.ar h.am, h.cfg⟩
  rw [ha.other _ (fA_far (by omega))]
  exact h.ar t (by omega) h2
theorem KT.grow (h : KT B w0 b g cap sb z lb la va al sf cf fo k D M L n tx inn w) (hb : Below w.heap.size w w') : KT B w0 b g cap sb z lb la va al sf cf fo k D M L n tx inn w' :=
  ⟨h.st.grow hb, h.m.below hb, h.ar, h.len, h.am, h.cfg⟩
theorem KI.grow (h : KI B w0 b g cap sb z lb la va k D L n tx w) (hb : Below w.heap.size w w') : KI B w0 b g cap sb z lb la va k D L n tx w' :=
  ⟨h.st.grow hb, h.m.below hb, fun t ht => ⟨(h.lg t ht).1.below hb, (h.lg t ht).2⟩, h.inj, h.ac, h.zr, h.len, h.ar⟩
end
/-- The law's rows as they are laid. -/
abbrev gFirst (z : Nat) : Avoid := ⟨fun k => z ≤ k ∧ k < z + 7, z + 7, fun k h => h.2⟩
def kRows (w : World) : World :=
  ((((((w.alloc (.cells #[.pointer none, .pointer none] 35)).alloc (.cells #[] 9)).alloc (.cells #[] 9)).alloc (.cells #[.slice (some ⟨w.heap.size + 1, 0, none⟩) 0 0, .slice (some ⟨w.heap.size + 2, 0, none⟩) 0 0] 28)).alloc (.cells #[.int .i64 0, .int .i64 0] 3)).alloc (.cells #[.string ⟨#[]⟩, .string ⟨#[]⟩] 9)).alloc (.cells #[.string ⟨#[]⟩, .string ⟨#[]⟩] 9)
omit [Avoid] in
theorem kRows_below (w : World) : Below w.heap.size w (kRows w) := by
  unfold kRows
  have h : ∀ (u : World) (o : Obj), w.heap.size ≤ u.heap.size → Below w.heap.size w u → Below w.heap.size w (u.alloc o) ∧ w.heap.size ≤ (u.alloc o).heap.size := fun u o hu hb => ⟨hb.alloc hu o, by simp; omega⟩
  have h1 := h w (.cells #[.pointer none, .pointer none] 35) (Nat.le_refl _) (Below.refl _ _)
  have h2 := h _ (.cells #[] 9) h1.2 h1.1
  have h3 := h _ (.cells #[] 9) h2.2 h2.1
  have h4 := h _ (.cells #[.slice (some ⟨w.heap.size + 1, 0, none⟩) 0 0, .slice (some ⟨w.heap.size + 2, 0, none⟩) 0 0] 28) h3.2 h3.1
  have h5 := h _ (.cells #[.int .i64 0, .int .i64 0] 3) h4.2 h4.1
  have h6 := h _ (.cells #[.string ⟨#[]⟩, .string ⟨#[]⟩] 9) h5.2 h5.1
  exact (h _ _ h6.2 h6.1).1
omit [Avoid] in
theorem kRows_size (w : World) : (kRows w).heap.size = w.heap.size + 7 := by unfold kRows; simp
omit [Avoid] in
theorem kRows_at (w : World) : (kRows w).heap[w.heap.size]? = some (.cells #[.pointer none, .pointer none] 35 (0, 0)) ∧ (kRows w).heap[w.heap.size + 1]? = some (.cells #[] 9 (0, 0)) ∧ (kRows w).heap[w.heap.size + 2]? = some (.cells #[] 9 (0, 0)) ∧
    (kRows w).heap[w.heap.size + 3]? = some (.cells #[.slice (some ⟨w.heap.size + 1, 0, none⟩) 0 0, .slice (some ⟨w.heap.size + 2, 0, none⟩) 0 0] 28 (0, 0)) ∧ (kRows w).heap[w.heap.size + 4]? = some (.cells #[.int .i64 0, .int .i64 0] 3 (0, 0)) ∧
    (kRows w).heap[w.heap.size + 5]? = some (.cells #[.string ⟨#[]⟩, .string ⟨#[]⟩] 9 (0, 0)) ∧ (kRows w).heap[w.heap.size + 6]? = some (.cells #[.string ⟨#[]⟩, .string ⟨#[]⟩] 9 (0, 0)) := by
  have hl : ∀ (u : World) (o : Obj) (k : Nat), k < u.heap.size → (u.alloc o).heap[k]? = u.heap[k]? := fun u o k h => heap_lt h
  have hn : ∀ (u : World) (o : Obj) (k : Nat), k = u.heap.size → (u.alloc o).heap[k]? = some o := fun u o k h => by rw [h]; exact heap_alloc_new u o
  unfold kRows
  refine ⟨?_, ?_, ?_, ?_, ?_, ?_, ?_⟩
  · iterate 6 rw [hl _ _ _ (by simp only [World.size_alloc] <;> omega)]
    exact hn _ _ _ rfl
  · iterate 5 rw [hl _ _ _ (by simp only [World.size_alloc] <;> omega)]
    exact hn _ _ _ (by simp only [World.size_alloc] <;> omega)
  · iterate 4 rw [hl _ _ _ (by simp only [World.size_alloc] <;> omega)]
    exact hn _ _ _ (by simp only [World.size_alloc] <;> omega)
  · iterate 3 rw [hl _ _ _ (by simp only [World.size_alloc] <;> omega)]
    exact hn _ _ _ (by simp only [World.size_alloc] <;> omega)
  · iterate 2 rw [hl _ _ _ (by simp only [World.size_alloc] <;> omega)]
    exact hn _ _ _ (by simp only [World.size_alloc] <;> omega)
  · rw [hl _ _ _ (by simp only [World.size_alloc] <;> omega)]
    exact hn _ _ _ (by simp only [World.size_alloc] <;> omega)
  · exact hn _ _ _ (by simp only [World.size_alloc] <;> omega)
def kVa (z : Nat) : Nat → Value := fun t => if t = 0 then .slice (some ⟨z + 1, 0, none⟩) 0 0 else .slice (some ⟨z + 2, 0, none⟩) 0 0
omit [Avoid] in
theorem kRows_KM (B : Nat) (w : World) (hB : B ≤ w.heap.size) : @KM (gFirst w.heap.size) B w.heap.size (fun t => if t < 0 then some 0 else none) (kVa w.heap.size) (fun _ => []) (fun _ => 0) (fun _ => ⟨#[]⟩) (fun _ => ⟨#[]⟩) (kRows w) := by
  obtain ⟨a0, a1, a2, a3, a4, a5, a6⟩ := kRows_at w
  have row : ∀ k, (kRows w).heap[k]? = some (.cells #[] 9 (0, 0)) → B ≤ k → OwnsS (kRows w) B (.slice (some ⟨k, 0, none⟩) 0 0) [] := fun k hk hb => ⟨rfl, .inr ⟨k, 0, _, rfl, hb, hk, Nat.le_refl _, Nat.zero_le _, rfl, by simp⟩⟩
  refine @KM.mk (gFirst w.heap.size) _ _ _ _ _ _ _ _ _ a0 a3 a4 a5 a6 ?_ ?_ ?_ ?_ hB ?_ ?_
  · intro t ht
    rcases two ht with rfl | rfl
    · exact row _ a1 (by omega)
    · exact row _ a2 (by omega)
  · intro t ht k hk
    rcases two ht with rfl | rfl
    · have h9 : w.heap.size + 1 = k := Option.some.inj hk
      exact ⟨⟨by omega, by omega⟩, by omega, by omega⟩
    · have h9 : w.heap.size + 2 = k := Option.some.inj hk
      exact ⟨⟨by omega, by omega⟩, by omega, by omega⟩
  · intro k h0 h1
    have h8 : w.heap.size + 1 = k := Option.some.inj h0
    have h9 : w.heap.size + 2 = k := Option.some.inj h1
    omega
  · exact fun i hi => ⟨by omega, by omega⟩
  · intro k hk
    rcases (show k = w.heap.size ∨ k = w.heap.size + 1 ∨ k = w.heap.size + 2 ∨ k = w.heap.size + 3 ∨ k = w.heap.size + 4 ∨ k = w.heap.size + 5 ∨ k = w.heap.size + 6 by have h1 := hk.1; have h2 := hk.2; omega) with rfl | rfl | rfl | rfl | rfl | rfl | rfl
    · exact ⟨_, _, a0, by decide⟩
    · exact ⟨_, _, a1, by decide⟩
    · exact ⟨_, _, a2, by decide⟩
    · exact ⟨_, _, a3, by decide⟩
    · exact ⟨_, _, a4, by decide⟩
    · exact ⟨_, _, a5, by decide⟩
    · exact ⟨_, _, a6, by decide⟩
  · exact fun k hk => Nat.le_trans hB hk.1
omit [Avoid] in
/- The law's rows are laid beside a store on its disk. -/
theorem kStart {B b g cap sb : Nat} {w0 w : World} {D : Dk} {lb : Nat → Nat} {L : Nat → Lg} {n : Nat → Nat} {tx : Nat → ByteArray} (h : @StA avoidNone B w0 b g cap sb 2 D 2 lb L n tx w) (hz : ∀ t, t < 2 → D.l.getD (fA t) Fl.zero = Fl.zero) (hl : D.l.length = 8) (har : D.armed = 0) :
    @KI (gFirst w.heap.size) B w0 b g cap sb w.heap.size lb (fun _ => 0) (kVa w.heap.size) 0 D L n tx (kRows w) := by
  obtain ⟨q1, q2, q3, q4, q5⟩ := h.on
  refine @KI.mk (gFirst w.heap.size) _ _ _ _ _ _ _ _ _ _ _ _ _ _ _ _ (StA.young _ h (fun k hk => .inr hk.1) (kRows_below w) (by rw [kRows_size]; exact Nat.le_refl _)) (kRows_KM B w (Nat.le_trans q5 q2.size)) (fun t ht => by omega) (fun s t hs ht => by omega) (fun t ht => by omega) (fun t _ ht => hz t ht) hl har
end Go.Proofs.YtilpbjcbffbjeaaGreatDoor
