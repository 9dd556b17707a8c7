/- What the law StoreLives keeps in memory and of the disk. -/
import Derived.Test.YtilpbjcbffbjeaaGreatDoorPkW
import Derived.Test.YtilpbjcbffbjeaaGreatDoorSHeld
namespace Go.Proofs.YtilpbjcbffbjeaaGreatDoor
set_option linter.unusedVariables false
set_option maxRecDepth 100000
open Go.RowKit
/-- A block of a text; what follows a block. -/
def findBlockS (n : Nat) : Code → Option Code
  | .block m c => if m = n then some (.block m c) else findBlockS n c
  | .seq a b => match findBlockS n a with
    | some c => some c
    | none => findBlockS n b
  | .loop c => findBlockS n c
  | .scope c => findBlockS n c
  | .cond _ a b => match findBlockS n a with
    | some c => some c
    | none => findBlockS n b
  | _ => none
def isBlockS (n : Nat) : Code → Bool
  | .block m _ => m == n
  | .seq _ b => isBlockS n b
  | _ => false
def findAfterS (n : Nat) : Code → Option Code
  | .seq a b => if isBlockS n a = true then some b else match findAfterS n a with
    | some d => some d
    | none => findAfterS n b
  | .block _ c => findAfterS n c
  | .loop c => findAfterS n c
  | .scope c => findAfterS n c
  | .cond _ a b => match findAfterS n a with
    | some c => some c
    | none => findAfterS n b
  | _ => none
section
variable {P : Program} {Q : Exit → Act → World → Prop} {md : Region.Mode} {S : World → Prop} {n : Nat}
/-- An operation that makes memory, below n. -/
theorem runUS (i : Nat) {l : List Oper} {o : Oper} {r : List Oper} {fuel : Nat} {listed : Array Bool} {a : Act} {w : World} {v : Value} {w' : World} (hi : l.drop i = o :: r) (hin : decide (i < n) = true) (hw : Region.wanted o (yielded l.toArray a.tmps) = true)
    (hrun : (execOp a.eval o).run P w = .ok (.value v) w')
    (h : S w' ∧ wpAnyU P md l.toArray n Q S fuel (listed.setIfInBounds i true) (a.put o.dst v) w') :
    if i < n then wpOp P l.toArray Q i (fun a' w' => S w' ∧ wpAnyU P md l.toArray n Q S fuel (listed.setIfInBounds i true) a' w') a w else wpOp P l.toArray Q i (wpAny P md l.toArray Q fuel (listed.setIfInBounds i true)) a w := by
  refine someU i hi hin ?_
  rw [if_pos hw]
  unfold Oper.wp
  rw [hrun]
  exact h
/-- A store, the last. -/
theorem endStoreU (i : Nat) {l : List Oper} {o : Oper} {r : List Oper} {fuel : Nat} {listed : Array Bool} {a : Act} {w w' : World} (hi : l.drop i = o :: r) (hin : decide (i < n) = false) (hr : Region.ready md l.toArray (listed.setIfInBounds i true) = [])
    (hw : Region.wanted o (yielded l.toArray a.tmps) = true) (hrun : (execOp a.eval o).run P w = .ok .skip w') (h : Q .normal (a.put o.dst undef) w') :
    if i < n then wpOp P l.toArray Q i (fun a' w' => S w' ∧ wpAnyU P md l.toArray n Q S fuel (listed.setIfInBounds i true) a' w') a w else wpOp P l.toArray Q i (wpAny P md l.toArray Q fuel (listed.setIfInBounds i true)) a w := by
  refine lastU i hi hin hr ?_
  rw [if_pos hw]
  unfold Oper.wp
  rw [hrun]
  exact h
end
/-- A block of a type that neither disk nor store has. -/
def OfLaw (w : World) (k : Nat) : Prop := ∃ cv T, w.heap[k]? = some (.cells cv T (0, 0)) ∧ (T = 87 ∨ T = 91)
theorem OfLaw.notBG {w : World} {k b g cap : Nat} {D : Dk} (h : OfLaw w k) (hd : IsDisk w b g cap D) : k ≠ b ∧ k ≠ g := by
  obtain ⟨cv, T, hk, hT⟩ := h
  constructor
  · rintro rfl
    obtain ⟨cv', h1, _⟩ := hd.blk
    rw [hk] at h1
    injection h1 with h1
    injection h1 with _ e _
    rcases hT with q | q <;> rw [q] at e <;> exact absurd e (by decide)
  · rintro rfl
    obtain ⟨cv', h1, _⟩ := hd.fs.blk
    rw [hk] at h1
    injection h1 with h1
    injection h1 with _ e _
    rcases hT with q | q <;> rw [q] at e <;> exact absurd e (by decide)
theorem OfLaw.notSA {B b g cap sb ten M k : Nat} {w0 w : World} {D : Dk} {lb : Nat → Nat} {L : Nat → Lg} {n : Nat → Nat} {tx : Nat → ByteArray} (h : OfLaw w k) (hs : StA B w0 b g cap sb ten D M lb L n tx w) : ¬ SA ten lb b g sb k := by
  have hbg := h.notBG hs.on.disk
  obtain ⟨cv, T, hk, hT⟩ := h
  rintro (e | e | e | ⟨i, hi, e⟩)
  · exact hbg.1 e
  · exact hbg.2 e
  · subst e
    have h1 := hs.st
    unfold IsSt at h1
    rw [hk] at h1
    injection h1 with h1
    injection h1 with _ e _
    rcases hT with q | q <;> rw [q] at e <;> exact absurd e (by decide)
  · have h1 := (hs.lg i hi).1.blk
    rw [← e, hk] at h1
    injection h1 with h1
    injection h1 with _ e _
    rcases hT with q | q <;> rw [q] at e <;> exact absurd e (by decide)
theorem Held.law {B nb ten : Nat} {n : Nat → Nat} {tx : Nat → ByteArray} {w : World} (h : Held B w nb ten n tx) : OfLaw w nb := by
  obtain ⟨cv, h1, _⟩ := h.blk
  exact ⟨cv, _, h1, .inl rfl⟩
theorem Held.congr {B nb ten : Nat} {n n' : Nat → Nat} {tx tx' : Nat → ByteArray} {w : World} (h : Held B w nb ten n tx) (hn : ∀ t, t < ten → n' (t + 1) = n (t + 1) ∧ tx' (t + 1) = tx (t + 1)) : Held B w nb ten n' tx' := by
  obtain ⟨cv, h1, h2⟩ := h.blk
  exact ⟨⟨cv, h1, fun t ht => by rw [(hn t ht).1, (hn t ht).2]; exact h2 t ht⟩, h.ge⟩
/-- A life in its own block; one held thing in its own block. -/
def XL (w : World) (xb : Nat) (nv tv : Value) (N Ag : Int) (cv : Value) : Prop := w.heap[xb]? = some (.cells #[nv, tv, .int .i64 N, .int .i64 Ag, cv] 91 (0, 0))
def OB (w : World) (ob og : Nat) (ot : ByteArray) : Prop := w.heap[ob]? = some (.cells #[.int .i64 (og : Nat), .string ot] 87 (0, 0))
section
variable {w w' : World} {xb ob og og' : Nat} {ot ot' : ByteArray} {tv nv cv : Value} {N Ag : Int} {S : Nat → Prop}
theorem XL.c0 (h : XL w xb nv tv N Ag cv) : w.cell? ⟨xb, 0, none⟩ = some nv := by rw [cell_of_row w xb 0 _ _ _ h]; rfl
theorem XL.c1 (h : XL w xb nv tv N Ag cv) : w.cell? ⟨xb, 1, none⟩ = some tv := by rw [cell_of_row w xb 1 _ _ _ h]; rfl
theorem XL.c2 (h : XL w xb nv tv N Ag cv) : w.cell? ⟨xb, 2, none⟩ = some (.int .i64 N) := by rw [cell_of_row w xb 2 _ _ _ h]; rfl
theorem XL.c3 (h : XL w xb nv tv N Ag cv) : w.cell? ⟨xb, 3, none⟩ = some (.int .i64 Ag) := by rw [cell_of_row w xb 3 _ _ _ h]; rfl
theorem XL.c4 (h : XL w xb nv tv N Ag cv) : w.cell? ⟨xb, 4, none⟩ = some cv := by rw [cell_of_row w xb 4 _ _ _ h]; rfl
theorem XL.lt (h : XL w xb nv tv N Ag cv) : xb < w.heap.size := (Array.getElem?_eq_some_iff.1 h).1
theorem XL.law (h : XL w xb nv tv N Ag cv) : OfLaw w xb := ⟨_, _, h, .inr rfl⟩
theorem XL.keep (h : XL w xb nv tv N Ag cv) (hc : Chg S w w') (hn : ¬ S xb) : XL w' xb nv tv N Ag cv := (hc.block xb h.lt hn).trans h
theorem OB.c0 (h : OB w ob og ot) : w.cell? ⟨ob, 0, none⟩ = some (.int .i64 (og : Nat)) := by rw [cell_of_row w ob 0 _ _ _ h]; rfl
theorem OB.c1 (h : OB w ob og ot) : w.cell? ⟨ob, 1, none⟩ = some (.string ot) := by rw [cell_of_row w ob 1 _ _ _ h]; rfl
theorem OB.free (h : OB w ob og ot) (j : Nat) : w.frozen? ⟨ob, j, none⟩ = false := frozen_of_row w ob j _ _ h
theorem OB.lt (h : OB w ob og ot) : ob < w.heap.size := (Array.getElem?_eq_some_iff.1 h).1
theorem OB.law (h : OB w ob og ot) : OfLaw w ob := ⟨_, _, h, .inl rfl⟩
theorem OB.keep (h : OB w ob og ot) (hc : Chg S w w') (hn : ¬ S ob) : OB w' ob og ot := (hc.block ob h.lt hn).trans h
theorem OB.below (h : OB w ob og ot) (hb : Below w.heap.size w w') : OB w' ob og ot := (hb.block ob h.lt).trans h
theorem OB.set (h : OB w ob og ot) : OB ((w.setCell ⟨ob, 0, none⟩ (.int .i64 (og' : Nat))).setCell ⟨ob, 1, none⟩ (.string ot')) ob og' ot' := by
  unfold OB
  rw [setCell_blk _ ob 1 _ (setCell_blk w ob 0 _ h)]; rfl
theorem OB.muts (h : OB w ob og ot) : Muts (fun k => k = ob) w := by
  intro k _ hk cur T fr hh
  subst hk
  rw [show w.heap[k]? = _ from h] at hh
  injection hh with hh
  injection hh with _ hT _
  subst hT
  unfold Fix
  decide
end
/-- The law's own blocks: what the tenants have, the life, what was in flight. -/
structure SLvM (B : Nat) (nb xb ob ten : Nat) (nv tv : Value) (N Ag : Int) (cv : Value) (n : Nat → Nat) (tx : Nat → ByteArray) (og : Nat) (ot : ByteArray) (w : World) : Prop where
  held : Held B w nb ten n tx
  x : XL w xb nv tv N Ag cv
  o : OB w ob og ot
  no : nb ≠ ob
  oB : B ≤ ob
section
variable {B nb xb ob ten b g cap sb M t og og' : Nat} {nv tv cv : Value} {N Ag : Int} {n n' : Nat → Nat} {tx tx' : Nat → ByteArray} {ot ot' : ByteArray} {w0 w w' : World} {S : Nat → Prop} {D : Dk} {lb : Nat → Nat} {L : Nat → Lg}
theorem SLvM.keep (h : SLvM B nb xb ob ten nv tv N Ag cv n tx og ot w) (hc : Chg S w w') (h1 : ¬ S nb) (h2 : ¬ S xb) (h3 : ¬ S ob) : SLvM B nb xb ob ten nv tv N Ag cv n tx og ot w' :=
  ⟨h.held.keep hc h1, h.x.keep hc h2, h.o.keep hc h3, h.no, h.oB⟩
theorem SLvM.below (h : SLvM B nb xb ob ten nv tv N Ag cv n tx og ot w) (hb : Below w.heap.size w w') : SLvM B nb xb ob ten nv tv N Ag cv n tx og ot w' :=
  h.keep (Chg.of_below (fun _ => False) hb) (fun h => h) (fun h => h) (fun h => h)
theorem SLvM.keepSA (h : SLvM B nb xb ob ten nv tv N Ag cv n tx og ot w) (hs : StA B w0 b g cap sb ten D M lb L n' tx' w) (hc : Chg (SA ten lb b g sb) w w') : SLvM B nb xb ob ten nv tv N Ag cv n tx og ot w' :=
  h.keep hc (h.held.law.notSA hs) (h.x.law.notSA hs) (h.o.law.notSA hs)
theorem SLvM.keepBG (h : SLvM B nb xb ob ten nv tv N Ag cv n tx og ot w) (hs : At B w0 b g cap D w) (hc : Chg (fun k => k = b ∨ k = g) w w') : SLvM B nb xb ob ten nv tv N Ag cv n tx og ot w' :=
  h.keep hc (by have := h.held.law.notBG hs.disk; omega) (by have := h.x.law.notBG hs.disk; omega) (by have := h.o.law.notBG hs.disk; omega)
theorem SLvM.setH (h : SLvM B nb xb ob ten nv tv N Ag cv n tx og ot w) (ht : t < ten) (m : Nat) (u : ByteArray) :
    SLvM B nb xb ob ten nv tv N Ag cv (upd n (t + 1) m) (upd tx (t + 1) u) og ot ((w.setCell ⟨nb, t * 2, none⟩ (.int .i64 (m : Nat))).setCell ⟨nb, t * 2 + 1, none⟩ (.string u)) := by
  have hc : Chg (fun j => j = nb) w ((w.setCell ⟨nb, t * 2, none⟩ (.int .i64 (m : Nat))).setCell ⟨nb, t * 2 + 1, none⟩ (.string u)) := (Chg.setCell (fun j => j = nb) w rfl _).trans (Chg.setCell (fun j => j = nb) _ rfl _)
  refine ⟨h.held.set ht m u, h.x.keep hc ?_, h.o.keep hc (fun e => h.no e.symm), h.no, h.oB⟩
  rintro rfl
  obtain ⟨cv', h1, _⟩ := h.held.blk
  rw [show w.heap[xb]? = _ from h.x] at h1
  injection h1 with h1
  injection h1 with _ e _
  exact absurd e (by decide)
theorem SLvM.setO (h : SLvM B nb xb ob ten nv tv N Ag cv n tx og ot w) (og' : Nat) (ot' : ByteArray) :
    SLvM B nb xb ob ten nv tv N Ag cv n tx og' ot' ((w.setCell ⟨ob, 0, none⟩ (.int .i64 (og' : Nat))).setCell ⟨ob, 1, none⟩ (.string ot')) := by
  have hc : Chg (fun j => j = ob) w ((w.setCell ⟨ob, 0, none⟩ (.int .i64 (og' : Nat))).setCell ⟨ob, 1, none⟩ (.string ot')) := (Chg.setCell (fun j => j = ob) w rfl _).trans (Chg.setCell (fun j => j = ob) _ rfl _)
  refine ⟨h.held.keep hc h.no, h.x.keep hc ?_, h.o.set, h.no, h.oB⟩
  rintro rfl
  have h1 := h.o
  unfold OB at h1
  rw [show w.heap[xb]? = _ from h.x] at h1
  injection h1 with h1
  injection h1 with _ e _
  exact absurd e (by decide)
theorem chgH (w : World) (k j : Nat) (x y : Value) : Chg (fun i => i = k) w ((w.setCell ⟨k, j, none⟩ x).setCell ⟨k, j + 1, none⟩ y) := (Chg.setCell (fun i => i = k) w rfl _).trans (Chg.setCell (fun i => i = k) _ rfl _)
/-- The store, while one of the law's own blocks changes. -/
theorem StA.besideL {k : Nat} (hs : StA B w0 b g cap sb ten D M lb L n tx w) (hk : OfLaw w k) (hm : Muts (fun i => i = k) w) (hB : B ≤ k) (hc : Chg (fun i => i = k) w w') : StA B w0 b g cap sb ten D M lb L n tx w' :=
  hs.beside hc hm (fun j h h' => hk.notSA hs (h' ▸ h)) (fun j h => by rw [h]; exact hB)
theorem At.besideL {k : Nat} (hs : At B w0 b g cap D w) (hk : OfLaw w k) (hm : Muts (fun i => i = k) w) (hB : B ≤ k) (hc : Chg (fun i => i = k) w w') : At B w0 b g cap D w' := by
  have := hk.notBG hs.disk
  exact ⟨hs.disk.keep hc (fun e => this.1 e.symm) (fun e => this.2 e.symm) hm, hs.below.trans (hc.below (Nat.le_trans hs.le hs.below.size) (fun j hj e => by omega)), hs.bB, hs.gB, hs.le⟩
theorem StA.arm (hs : StA B w0 b g cap sb ten D M lb L n tx w) (x : Nat) (css : List (List Int)) (hx : x ≤ 9223372036854775807) (hcs : ∀ i, (css.getD i []).length ≤ 140737488355328) (hd : IsDisk w' b g cap ⟨D.l, x, css, D.dead⟩) (hc : Chg (fun k => k = b) w w') : StA B w0 b g cap sb ten ⟨D.l, x, css, D.dead⟩ M lb L n tx w' := by
  have hbg := hs.st.ne hs.on.disk
  exact ⟨hs.on.chg hd (hc.mono fun k _ h => .inl h), hs.st.keep hc (fun e => hbg.1 e), hs.sB, fun i hi => ⟨(hs.lg i hi).1.keep hc (fun e => (hs.lg i hi).1.ne hs.on.disk |>.1 e), (hs.lg i hi).2⟩, hs.inj, hs.t8, ⟨hs.ok.n, hs.ok.pos, hs.ok.size, hs.ok.many, hx, hcs⟩, hs.al, hs.few, hs.kp⟩
end
/-- Behind the texts of a life: some of the tenants may have what was in flight. -/
structure SLvO (B : Nat) (w0 : World) (b g cap ten : Nat) (D : Dk) (M : Nat) (n : Nat → Nat) (tx : Nat → ByteArray) (fl : Int) (og : Nat) (ot : ByteArray) (n' : Nat → Nat) (tx' : Nat → ByteArray) (w : World) : Prop where
  on : At B w0 b g cap D w
  ok : DOk D
  few : FewS D
  len : D.l.length = 32
  rs : RsA D.l M ten n' tx'
  bd : ∀ j, n' j ≤ M
  hz : ∀ i, ten < i → n' i = 0 ∧ tx' i = ⟨#[]⟩
  le : n 0 ≤ n' 0
  fl : ∀ t, t < ten → (n' (t + 1) = n (t + 1) ∧ tx' (t + 1) = tx (t + 1)) ∨ (fl = (t : Int) ∧ n' (t + 1) = og ∧ tx' (t + 1) = ot ∧ n' (t + 1) ≠ n (t + 1))
section
variable {B b g cap sb ten M M' og : Nat} {w0 w w' : World} {D D' : Dk} {n n' n2 : Nat → Nat} {tx tx' tx2 : Nat → ByteArray} {fl : Int} {ot : ByteArray} {lb : Nat → Nat} {L : Nat → Lg}
theorem SLvO.died (h : SLvO B w0 b g cap ten D M n tx fl og ot n' tx' w) (css : List (List Int)) (hd : IsDisk w' b g cap (D.died css)) (hc : Chg (fun k => k = b ∨ k = g) w w') : SLvO B w0 b g cap ten (D.died css) M n tx fl og ot n' tx' w' :=
  ⟨h.on.chg hd hc, h.ok.died css, FewS.died D css, (died_l D css).1.trans h.len, h.rs.died (died_l D css), h.bd, h.hz, h.le, h.fl⟩
theorem SLvO.revive (h : SLvO B w0 b g cap ten D M n tx fl og ot n' tx' w) (hd : IsDisk w' b g cap ⟨D.l, 0, D.ch, false⟩) (hc : Chg (fun k => k = b) w w') : SLvO B w0 b g cap ten ⟨D.l, 0, D.ch, false⟩ M n tx fl og ot n' tx' w' :=
  ⟨h.on.chg hd (hc.mono fun k _ e => .inl e), ⟨h.ok.n, h.ok.pos, h.ok.size, h.ok.many, Nat.zero_le _, h.ok.chl⟩, h.few, h.len, h.rs, h.bd, h.hz, h.le, h.fl⟩
theorem SLvO.arm (h : SLvO B w0 b g cap ten D M n tx fl og ot n' tx' w) (x : Nat) (css : List (List Int)) (hx : x ≤ 9223372036854775807) (hcs : ∀ i, (css.getD i []).length ≤ 140737488355328) (hd : IsDisk w' b g cap ⟨D.l, x, css, D.dead⟩) (hc : Chg (fun k => k = b) w w') : SLvO B w0 b g cap ten ⟨D.l, x, css, D.dead⟩ M n tx fl og ot n' tx' w' :=
  ⟨h.on.chg hd (hc.mono fun k _ e => .inl e), ⟨h.ok.n, h.ok.pos, h.ok.size, h.ok.many, hx, hcs⟩, h.few, h.len, h.rs, h.bd, h.hz, h.le, h.fl⟩
theorem SLvO.mono (h : SLvO B w0 b g cap ten D M n tx fl og ot n' tx' w) (hM : M ≤ M') : SLvO B w0 b g cap ten D M' n tx fl og ot n' tx' w :=
  ⟨h.on, h.ok, h.few, h.len, h.rs.mono hM, fun j => Nat.le_trans (h.bd j) hM, h.hz, h.le, h.fl⟩
theorem SLvO.grow (h : SLvO B w0 b g cap ten D M n tx fl og ot n' tx' w) (hb : Below w.heap.size w w') : SLvO B w0 b g cap ten D M n tx fl og ot n' tx' w' :=
  ⟨h.on.grow hb, h.ok, h.few, h.len, h.rs, h.bd, h.hz, h.le, h.fl⟩
theorem upd0_bd (h : ∀ j, n' j ≤ M) {y : Nat} (hy : y ≤ n' 0 + 1) : ∀ j, upd n' 0 y j ≤ M + 1 := by
  intro j
  unfold upd
  split
  · have := h 0; omega
  · have := h j; omega
theorem upd0_hz {x : ByteArray} (h : ∀ i, ten < i → n' i = 0 ∧ tx' i = ⟨#[]⟩) (y : Nat) : ∀ i, ten < i → upd n' 0 y i = 0 ∧ upd tx' 0 x i = ⟨#[]⟩ := by
  intro i hi
  rw [upd_other _ _ (by omega), upd_other _ _ (by omega)]
  exact h i hi
/-- The power went in the opening. -/
theorem SLvO.gone (h : SLvO B w0 b g cap ten D M n tx fl og ot n' tx' w) (hg : OpGone B w0 b g cap ten D D' M n' tx' w') : ∃ n2 tx2, SLvO B w0 b g cap ten D' (M + 1) n tx fl og ot n2 tx2 w' ∧ n' 0 ≤ n2 0 := by
  obtain ⟨y, u, hy, hr⟩ := hg.rs
  refine ⟨_, _, ⟨hg.on, hg.ok, hg.few, hg.len.trans h.len, hr, upd0_bd h.bd (by omega), upd0_hz h.hz y, ?_, ?_⟩, ?_⟩
  · rw [upd_same]; have := h.le; omega
  · intro t ht
    rw [upd_other _ _ (by omega), upd_other _ _ (by omega)]
    exact h.fl t ht
  · rw [upd_same]; omega
/-- It was opened. -/
theorem SLvO.opened (h : SLvO B w0 b g cap ten D M n tx fl og ot n' tx' w) (hs : StA B w0 b g cap sb ten D' (M + 1) lb L (upd n' 0 (n' 0 + 1)) (upd tx' 0 ⟨#[]⟩) w') (hl : D'.l.length = D.l.length) : SLvO B w0 b g cap ten D' (M + 1) n tx fl og ot (upd n' 0 (n' 0 + 1)) (upd tx' 0 ⟨#[]⟩) w' := by
  refine ⟨hs.on, hs.ok, hs.few, hl.trans h.len, hs.rests, upd0_bd h.bd (Nat.le_refl _), upd0_hz h.hz _, ?_, ?_⟩
  · rw [upd_same]; have := h.le; omega
  · intro t ht
    rw [upd_other _ _ (by omega), upd_other _ _ (by omega)]
    exact h.fl t ht
theorem SLvO.over (h : SLvO B w0 b g cap ten D M n tx fl og ot n' tx' w) (hat : At B w0 b g cap D w') : SLvO B w0 b g cap ten D M n tx fl og ot n' tx' w' :=
  ⟨hat, h.ok, h.few, h.len, h.rs, h.bd, h.hz, h.le, h.fl⟩
/-- All commits came through. -/
theorem StA.out (hs : StA B w0 b g cap sb ten D M lb L n tx w) (hl : D.l.length = 32) (hbd : ∀ j, n j ≤ M) (hz : ∀ i, ten < i → n i = 0 ∧ tx i = ⟨#[]⟩) (fl : Int) (og : Nat) (ot : ByteArray) : SLvO B w0 b g cap ten D M n tx fl og ot n tx w :=
  ⟨hs.on, hs.ok, hs.few, hl, hs.rests, hbd, hz, Nat.le_refl _, fun t ht => .inl ⟨rfl, rfl⟩⟩
/-- The power went in the last one. -/
theorem SLvO.ofGone {t : Nat} {u : ByteArray} {f : Nat} (hs : StA B w0 b g cap sb ten D M lb L n tx w) (hl : D.l.length = 32) (hbd : ∀ j, n j ≤ M) (hz : ∀ i, ten < i → n i = 0 ∧ tx i = ⟨#[]⟩) (ht : t < ten) (hat : At B w0 b g cap D' w') (hg : GoneD D D' f) (hfw : FewS D')
    (hrs : RsA D'.l (M + 1) ten n' tx') (hc : n' = n ∧ tx' = tx ∨ n' = upd n (t + 1) (n (t + 1) + 1) ∧ tx' = upd tx (t + 1) u) : SLvO B w0 b g cap ten D' (M + 1) n tx (t : Int) (n (t + 1) + 1) u n' tx' w' := by
  refine ⟨hat, hg.ok, hfw, hg.len.trans hl, hrs, ?_, ?_, ?_, ?_⟩
  · intro j
    rcases hc with ⟨rfl, _⟩ | ⟨rfl, _⟩
    · have := hbd j; omega
    · unfold upd
      split
      · have := hbd (t + 1); omega
      · have := hbd j; omega
  · intro i hi
    rcases hc with ⟨rfl, rfl⟩ | ⟨rfl, rfl⟩
    · exact hz i hi
    · rw [upd_other _ _ (by omega), upd_other _ _ (by omega)]; exact hz i hi
  · rcases hc with ⟨rfl, _⟩ | ⟨rfl, _⟩
    · exact Nat.le_refl _
    · rw [upd_other _ _ (by omega)]; exact Nat.le_refl _
  · intro j hj
    rcases hc with ⟨rfl, rfl⟩ | ⟨rfl, rfl⟩
    · exact .inl ⟨rfl, rfl⟩
    · by_cases e : j = t
      · subst e
        refine .inr ⟨rfl, upd_same _ _ _, upd_same _ _ _, ?_⟩
        rw [upd_same]; omega
      · exact .inl ⟨upd_other _ _ (by omega), upd_other _ _ (by omega)⟩
end
end Go.Proofs.YtilpbjcbffbjeaaGreatDoor
