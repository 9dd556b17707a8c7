/- The audit's read: the texts, the last link, where they end, what is wrong. -/
import Derived.Test.YtilpbjcbffbjeaaGreatDoorAPay
import Derived.Test.YtilpbjcbffbjeaaGreatDoorPkV
namespace Go.Proofs.YtilpbjcbffbjeaaGreatDoor
set_option linter.unusedVariables false
set_option maxRecDepth 100000
open Go.RowKit Go.Shelf
attribute [local go_sem] Oper.semAt_some callVal
def txt (p : List Nat) : List Nat := p.take (p.length - 32)
def lnk (p : List Nat) : List Nat := p.drop (p.length - 32)
/-- A payload that may be an entry's. -/
def okP (p : List Nat) : Prop := 32 ≤ p.length ∧ p.length ≤ 1056
def auF (st : List Nat × Nat × Option Nat) (p : List Nat) : List Nat × Nat × Option Nat :=
  (nextL st.1 (txt p), st.2.1 + 1, if st.2.2 = none ∧ nextL st.1 (txt p) ≠ lnk p then some st.2.1 else st.2.2)
def au (ps : List (List Nat)) : List Nat × Nat × Option Nat := ps.foldl auF (firstL, 0, none)
theorem au_snoc (ps : List (List Nat)) (p : List Nat) : au (ps ++ [p]) = auF (au ps) p := by unfold au; rw [List.foldl_append]; rfl
theorem au_foldl (ps : List (List Nat)) : ∀ st, (ps.foldl auF st).2.1 = st.2.1 + ps.length := by
  induction ps with
  | nil => intro st; rfl
  | cons p ps ih => intro st; rw [List.foldl_cons, ih, List.length_cons]; unfold auF; simp only; omega
theorem au_len (ps : List (List Nat)) : (au ps).2.1 = ps.length := by unfold au; rw [au_foldl]; simp
theorem bxOther {W : World} {B : Nat} {t : TypeId} {v : Value} (h : Boxed W B t v) (b : Nat) (v' : Value) (hne : B ≠ b) : Boxed (W.setCell ⟨b, 0, none⟩ v') B t v := h.kept (grownBy_setCell' W b v') (by simpa using hne)
theorem boxed4 (w : World) (a b c d : Value) (ta tb tc td : TypeId) (W : World) (hW : W = (((w.alloc (.cells #[a] ta)).alloc (.cells #[b] tb)).alloc (.cells #[c] tc)).alloc (.cells #[d] td)) :
    Boxed W w.heap.size ta a ∧ Boxed W (w.heap.size + 1) tb b ∧ Boxed W (w.heap.size + 1 + 1) tc c ∧ Boxed W (w.heap.size + 1 + 1 + 1) td d ∧ W.heap.size = w.heap.size + 4 ∧ Below w.heap.size w W := by
  subst hW
  have h1 := Boxed.new w ta a
  have h2 := Boxed.new (w.alloc (.cells #[a] ta)) tb b
  have h3 := Boxed.new ((w.alloc (.cells #[a] ta)).alloc (.cells #[b] tb)) tc c
  have h4 := Boxed.new (((w.alloc (.cells #[a] ta)).alloc (.cells #[b] tb)).alloc (.cells #[c] tc)) td d
  simp only [World.size_alloc] at h2 h3 h4
  exact ⟨((h1.alloc _).alloc _).alloc _, (h2.alloc _).alloc _, h3.alloc _, h4, by simp only [World.size_alloc], ((((Below.refl _ w).alloc (Nat.le_refl _) _).alloc (by simp) _).alloc (by simp only [World.size_alloc]; omega) _).alloc (by simp only [World.size_alloc]; omega) _⟩
theorem auF_lt (ps : List (List Nat)) : ∀ st : List Nat × Nat × Option Nat, (∀ c ∈ st.1, c < 256) → st.1.length = 32 → (∀ c ∈ (ps.foldl auF st).1, c < 256) ∧ (ps.foldl auF st).1.length = 32 := by
  induction ps with
  | nil => intro st h1 h2; exact ⟨h1, h2⟩
  | cons p ps ih => intro st h1 h2; rw [List.foldl_cons]; exact ih _ (nextL_lt _ _) (length_nextL _ _)
theorem au_lt (ps : List (List Nat)) : ∀ c ∈ (au ps).1, c < 256 := (auF_lt ps _ firstL_lt length_firstL).1
theorem length_au (ps : List (List Nat)) : (au ps).1.length = 32 := (auF_lt ps _ firstL_lt length_firstL).2
def texts (ps : List (List Nat)) : List Value := ps.map fun p => .string (strOf (txt p))
def wordF : ByteArray := ⟨#[102, 111, 114, 109]⟩
def wordC : ByteArray := ⟨#[99, 104, 97, 105, 110]⟩
def errV (word : ByteArray) (i : Nat) (e : Int) : Value := .iface 153 (.agg #[.string word, .iface 151 (.agg #[.int .i64 (i : Nat), .int .i64 e])])
def formV (i : Nat) : Value := errV wordF i 190
def chainV : Option Nat → Value
  | none => .nilIface
  | some i => errV wordC i 192
theorem infoS : (Tryz.prog.info? 9).map (fun i => (i.zero, i.size, i.bytes)) = some (some (.string ⟨#[]⟩), 1, 16) := by kernel_rfl
theorem apaysW (n : Nat) (s : ByteArray) (w : World) : CallsIn Fence.wide n Tryz.prog 90 #[.string s] w fun e w' => e = .returned (.func (.func 116) #[] #[.pointer (some ⟨w.heap.size, 0, none⟩)]) ∧ w' = w.alloc (.cells #[.string s] 9) := by
  refine callsIn_of_wp Tryz.func90 rfl trivial ?_ rfl
  simp only [Tryz.ntmps90, List.size_toArray, List.length_cons, List.length_nil, Nat.reduceAdd, Nat.reduceSub, Array.replicate_succ, Array.replicate_zero, List.push_toArray, List.append_toArray, List.nil_append, List.cons_append]
  gi_wp2
  go_ret
  exact ⟨rfl, rfl⟩
theorem apay_stops (n Bn : Nat) (hn : 1 ≤ n) (s : ByteArray) (hs : s.size ≤ 1048576) (w : World) (hc : Boxed w Bn 9 (.string s)) :
    SeqStopsK Fence.wide n Tryz.prog 116 #[.pointer (some ⟨Bn, 0, none⟩)] Pay.enc (KeepB Bn s) (PayAll s) (PayPre s) (s.size + 1) w := fun l J Jx W hW hJ _ hY h0 =>
  pay1W n l Bn hn s hs J Jx W hJ hY (bxBelow hc hW hc.lt) h0
/-- What read tells. -/
def ReadPost (s : ByteArray) (w : World) (e : Ending) (w' : World) : Prop :=
  (∃ i, (¬ ∀ p ∈ scan (bs s), okP p) ∧ e = .returned (.tuple #[.slice none 0 0, .string ⟨#[]⟩, .int .i64 0, formV i]) ∧ Below w.heap.size w w') ∨
  (∃ v, (∀ p ∈ scan (bs s), okP p) ∧ e = .returned (.tuple #[v, .string (strOf (au (scan (bs s))).1), .int .i64 (lens (scan (bs s)) : Nat), chainV (au (scan (bs s))).2.2]) ∧
    w'.ownsRow w.heap.size 9 1 v (scan (bs s)).length (texts (scan (bs s))) ∧ (v = .slice none 0 0 ↔ scan (bs s) = []) ∧ Below w.heap.size w w')
theorem bxFrom {W W' : World} {B C : Nat} {t : TypeId} {v : Value} {row : Option Nat} (h : Boxed W B t v) (hg : W.grownBy W' row) (hr : ∀ r, row = some r → C ≤ r ∧ ∃ o : Obj, W.heap[r]? = some o ∧ o.isCells = false) : Boxed W' B t v := by
  refine h.kept hg (fun e => ?_)
  obtain ⟨_, o, ho, hc⟩ := hr B e.symm
  rw [show W.heap[B]? = _ from h] at ho; cases ho; cases hc
/-- Behind an append to a row of one's own: what lies below lies as it lay. -/
theorem rowGrown {W w1 : World} {n₀ : Nat} {e : TypeId} {size k : Nat} {v : Value} {xs : List Value} {tmp : Obj} (hrow : W.ownsRow n₀ e size v k xs) (hn₀ : n₀ ≤ W.heap.size) (hgrow : (W.alloc tmp).grownBy w1 v.ownBlock) : Below n₀ W w1 ∧ KeepsOthers W w1 := by
  refine ⟨((Below.refl n₀ W).alloc hn₀ tmp).grown hgrow (by simp; omega) fun j ej => ?_, (KeepsOthers.alloc W tmp).trans (KeepsOthers.of_grownBy hgrow fun j o ej hj => ?_)⟩
  · rcases hrow.2 with ⟨rfl, _⟩ | ⟨g, cap, cur, rfl, hb, _, _⟩
    · simp [Value.ownBlock] at ej
    · obtain rfl : g = j := by simpa [Value.ownBlock] using ej
      exact hb
  · rcases (hrow.alloc tmp).2 with ⟨rfl, _⟩ | ⟨g, cap, cur, rfl, _, hgb, _⟩
    · simp [Value.ownBlock] at ej
    · obtain rfl : g = j := by simpa [Value.ownBlock] using ej
      rw [hgb] at hj; cases hj; rfl
theorem rowShape {W : World} {n₀ : Nat} {e : TypeId} {size k : Nat} {v : Value} {xs : List Value} (h : W.ownsRow n₀ e size v k xs) : ∃ p cap, v = .slice p k cap := by
  rcases h.2 with ⟨rfl, rfl⟩ | ⟨g, cap, cur, rfl, _⟩
  · exact ⟨_, _, rfl⟩
  · exact ⟨_, _, rfl⟩
/-- Between two rounds: what read's own cells hold. -/
def ReadB (s : ByteArray) (H Bw : Nat) (pre : List Pay) (W : World) : Prop :=
  Boxed W (H + 1) 9 (.string (strOf (au (pre.map payP)).1)) ∧ Boxed W (H + 1 + 1) 3 (.int .i64 (endOf pre : Nat)) ∧ Boxed W (H + 1 + 1 + 1) 103 .nilIface ∧ Boxed W Bw 103 (chainV (au (pre.map payP)).2.2) ∧ Boxed W (Bw + 1) 9 (.string s) ∧ ∀ x ∈ pre, okP (payP x)
def ReadI (s : ByteArray) (w : World) (Bw : Nat) (pre : List Pay) (W : World) : Prop :=
  ((∃ v, Boxed W w.heap.size 28 v ∧ W.ownsRow (Bw + 1 + 1) 9 1 v pre.length (texts (pre.map payP)) ∧ (v = .slice none 0 0 ↔ pre = [])) ∧ ReadB s w.heap.size Bw pre W) ∧ Below w.heap.size w W
def ReadX (w : World) (c : Code) (pre : List Pay) (W : World) : Prop :=
  (∃ i, c = .ret ∧ (∃ x ∈ pre, ¬ okP (payP x)) ∧ Boxed W w.heap.size 28 (.slice none 0 0) ∧ Boxed W (w.heap.size + 1) 9 (.string ⟨#[]⟩) ∧ Boxed W (w.heap.size + 1 + 1) 3 (.int .i64 0) ∧ Boxed W (w.heap.size + 1 + 1 + 1) 103 (formV i)) ∧ Below w.heap.size w W
theorem readI_own (s : ByteArray) (w : World) (Bw B : Nat) (hB : w.heap.size ≤ B) : OwnFrom B (ReadI s w Bw) :=
  OwnFrom.and (OwnFrom.and (Own.from (holdsRow_own (Bw + 1 + 1) w.heap.size 28 9 1 (fun pre : List Pay => pre.length) (fun pre => texts (pre.map payP)) (fun pre v => v = .slice none 0 0 ↔ pre = [])) _)
    (fun s A B row hs hg hr => ⟨bxFrom hs.1 hg hr, bxFrom hs.2.1 hg hr, bxFrom hs.2.2.1 hg hr, bxFrom hs.2.2.2.1 hg hr, bxFrom hs.2.2.2.2.1 hg hr, hs.2.2.2.2.2⟩)) (ownFrom_below (Nat.le_refl _) hB)
theorem readX_own (w : World) (c : Code) (B : Nat) (hB : w.heap.size ≤ B) : OwnFrom B (ReadX w c) :=
  OwnFrom.and (fun s A B row hs hg hr => by obtain ⟨i, h1, h2, h3, h4, h5, h6⟩ := hs; exact ⟨i, h1, h2, bxFrom h3 hg hr, bxFrom h4 hg hr, bxFrom h5 hg hr, bxFrom h6 hg hr⟩) (ownFrom_below (Nat.le_refl _) hB)
/-- A frame and a world, and no others. -/
def AtEnd (A : Act) (W : World) (a : Act) (w : World) : Prop := a = A ∧ w = W
theorem region_ex {F : Fence} {n : Nat} {P : Program} {c : Code} {Q : Exit → Act → World → Prop} {a : Act} {w : World} (W : World) (h : ∃ A, c.wpIn F n P (Exit.then (AtEnd A W) (fun _ _ _ => False)) a w ∧ Q .normal A W) : c.wpIn F n P Q a w := by
  obtain ⟨A, h1, h2⟩ := h
  refine wpIn_mono h1 ?_
  rintro e a' w' he
  cases e with
  | normal => obtain ⟨rfl, rfl⟩ := he; exact h2
  | _ => exact he.elim
theorem bad4 {w W : World} {v l e r : Value} (i : Nat) (c : Code) (pre : List Pay) (hx : ∃ x ∈ pre, ¬ okP (payP x)) (b2 : Boxed W w.heap.size 28 v) (b3 : Boxed W (w.heap.size + 1) 9 l) (b4 : Boxed W (w.heap.size + 1 + 1) 3 e) (b5 : Boxed W (w.heap.size + 1 + 1 + 1) 103 r) (hB : Below w.heap.size w W) (W' : World)
    (hW' : W' = ((((W.setCell ⟨w.heap.size, 0, none⟩ (.slice none 0 0)).setCell ⟨w.heap.size + 1, 0, none⟩ (.string ⟨#[]⟩)).setCell ⟨w.heap.size + 1 + 1, 0, none⟩ (.int .i64 0)).setCell ⟨w.heap.size + 1 + 1 + 1, 0, none⟩ (formV i))) (hc : c = .ret) :
    KeepsOthers W W' ∧ ReadX w c pre W' := by
  subst hW'
  refine ⟨(((KeepsOthers.setCell _ _ _).trans (KeepsOthers.setCell _ _ _)).trans (KeepsOthers.setCell _ _ _)).trans (KeepsOthers.setCell _ _ _), ⟨i, hc, hx, ?_, ?_, ?_, ?_⟩, ?_⟩
  · exact bxOther (bxOther (bxOther (b2.set _) _ _ (by omega)) _ _ (by omega)) _ _ (by omega)
  · exact bxOther (bxOther ((bxOther b3 _ _ (by omega)).set _) _ _ (by omega)) _ _ (by omega)
  · exact bxOther ((bxOther (bxOther b4 _ _ (by omega)) _ _ (by omega)).set _) _ _ (by omega)
  · exact (bxOther (bxOther (bxOther b5 _ _ (by omega)) _ _ (by omega)) _ _ (by omega)).set _
  · exact (((hB.setCell (p := ⟨w.heap.size, 0, none⟩) (by simp) _).setCell (p := ⟨w.heap.size + 1, 0, none⟩) (by simp) _).setCell (p := ⟨w.heap.size + 1 + 1, 0, none⟩) (by simp only; omega) _).setCell (p := ⟨w.heap.size + 1 + 1 + 1, 0, none⟩) (by simp only; omega) _
theorem rowSet {W : World} {n₀ : Nat} {e : TypeId} {size k : Nat} {v : Value} {xs : List Value} (h : W.ownsRow n₀ e size v k xs) (B : Nat) (hB : B < n₀) (u : Value) : (W.setCell ⟨B, 0, none⟩ u).ownsRow n₀ e size v k xs :=
  h.kept (grownBy_setCell' W B u) (.inr (by
    intro e; rcases h.2 with ⟨h, _⟩ | ⟨g, cp, cur, h, hg, _⟩
    · rw [h] at e; cases e
    · rw [h] at e; simp only [Value.ownBlock, Option.some.injEq] at e; omega))
theorem rowBase {W : World} {n₀ m₀ : Nat} {e : TypeId} {size k : Nat} {v : Value} {xs : List Value} (h : W.ownsRow n₀ e size v k xs) (hm : m₀ ≤ n₀) : W.ownsRow m₀ e size v k xs := by
  refine ⟨h.1, ?_⟩
  rcases h.2 with ⟨h1, h2⟩ | ⟨g, cp, cur, h1, h2, h3⟩
  · exact .inl ⟨h1, h2⟩
  · exact .inr ⟨g, cp, cur, h1, Nat.le_trans hm h2, h3⟩
theorem endCell {W : World} {B D : Nat} {t : TypeId} {v : Value} {o o' : Obj} (h : Boxed W B t v) (hD : W.heap[D]? = some o) (ho : o.isCells = false) : (W.putObj D o').cell? ⟨B, 0, none⟩ = some v :=
  (h.kept (grownBy_putObj' W D o') (fun e => by cases e; rw [show W.heap[B]? = _ from h] at hD; cases hD; cases ho)).cell
theorem bxDrew {W : World} {B : Nat} {t : TypeId} {v : Value} (h : Boxed W B t v) : Boxed W.drew B t v := h
theorem rowDrew {W : World} {n₀ : Nat} {e : TypeId} {size k : Nat} {v : Value} {xs : List Value} (h : W.ownsRow n₀ e size v k xs) : W.drew.ownsRow n₀ e size v k xs := h
theorem done4 {w W : World} {v l e r r0 : Value} (b2 : Boxed W w.heap.size 28 v) (b3 : Boxed W (w.heap.size + 1) 9 l) (b4 : Boxed W (w.heap.size + 1 + 1) 3 e) (b5 : Boxed W (w.heap.size + 1 + 1 + 1) 103 r0) (hB : Below w.heap.size w W) {n₀ k : Nat} {xs : List Value} (hr : W.ownsRow n₀ 9 1 v k xs) (hn : w.heap.size + 4 ≤ n₀) {D : Nat} (hD : w.heap.size ≤ D) (hK : W.heap[D]? = some (.deferred (some []))) (W' : World)
    (hW' : ((((W.setCell ⟨w.heap.size, 0, none⟩ v).setCell ⟨w.heap.size + 1, 0, none⟩ l).setCell ⟨w.heap.size + 1 + 1, 0, none⟩ e).setCell ⟨w.heap.size + 1 + 1 + 1, 0, none⟩ r).drew = W') :
    W'.heap[D]? = some (.deferred (some [])) ∧ (∀ o, (W'.putObj D o).cell? ⟨w.heap.size, 0, none⟩ = some v ∧ (W'.putObj D o).cell? ⟨w.heap.size + 1, 0, none⟩ = some l ∧ (W'.putObj D o).cell? ⟨w.heap.size + 1 + 1, 0, none⟩ = some e ∧ (W'.putObj D o).cell? ⟨w.heap.size + 1 + 1 + 1, 0, none⟩ = some r ∧ (W'.putObj D o).ownsRow w.heap.size 9 1 v k xs ∧ Below w.heap.size w (W'.putObj D o)) := by
  have hk := (((KeepsOthers.setCell W ⟨w.heap.size, 0, none⟩ v).trans (KeepsOthers.setCell _ ⟨w.heap.size + 1, 0, none⟩ l)).trans (KeepsOthers.setCell _ ⟨w.heap.size + 1 + 1, 0, none⟩ e)).trans (KeepsOthers.setCell _ ⟨w.heap.size + 1 + 1 + 1, 0, none⟩ r)
  have c2 := bxOther (bxOther (bxOther (b2.set v) (w.heap.size + 1) l (by omega)) (w.heap.size + 1 + 1) e (by omega)) (w.heap.size + 1 + 1 + 1) r (by omega)
  have c3 := bxOther (bxOther ((bxOther b3 w.heap.size v (by omega)).set l) (w.heap.size + 1 + 1) e (by omega)) (w.heap.size + 1 + 1 + 1) r (by omega)
  have c4 := bxOther ((bxOther (bxOther b4 w.heap.size v (by omega)) (w.heap.size + 1) l (by omega)).set e) (w.heap.size + 1 + 1 + 1) r (by omega)
  have c5 := (bxOther (bxOther (bxOther b5 w.heap.size v (by omega)) (w.heap.size + 1) l (by omega)) (w.heap.size + 1 + 1) e (by omega)).set r
  have hr2 := rowSet (rowSet (rowSet (rowSet hr w.heap.size (by omega) v) (w.heap.size + 1) (by omega) l) (w.heap.size + 1 + 1) (by omega) e) (w.heap.size + 1 + 1 + 1) (by omega) r
  have hb2 := (((hB.setCell (p := ⟨w.heap.size, 0, none⟩) (by simp) v).setCell (p := ⟨w.heap.size + 1, 0, none⟩) (by simp) l).setCell (p := ⟨w.heap.size + 1 + 1, 0, none⟩) (by simp only; omega) e).setCell (p := ⟨w.heap.size + 1 + 1 + 1, 0, none⟩) (by simp only; omega) r
  have hK2 := hk.same D _ hK rfl
  generalize (((W.setCell ⟨w.heap.size, 0, none⟩ v).setCell ⟨w.heap.size + 1, 0, none⟩ l).setCell ⟨w.heap.size + 1 + 1, 0, none⟩ e).setCell ⟨w.heap.size + 1 + 1 + 1, 0, none⟩ r = W5 at *
  subst hW'
  have hK3 : W5.drew.heap[D]? = some (.deferred (some [])) := hK2
  refine ⟨hK3, fun o => ⟨endCell (bxDrew c2) hK3 rfl, endCell (bxDrew c3) hK3 rfl, endCell (bxDrew c4) hK3 rfl, endCell (bxDrew c5) hK3 rfl, ?_, ?_⟩⟩
  · exact ownsRow_putObj (rowDrew (rowBase hr2 (by omega))) o hK3 rfl
  · exact hb2.drew.trans (belowK_b (w := w) (Nat.le_refl _) W5.drew D _ _ hD hK3 rfl rfl)
theorem goodEnd {w W W5 w1 W7 : World} {s T : ByteArray} {Bw : Nat} {pre : List Pay} {x : Pay} {v v' e0 : Value} (hH : w.heap.size + 4 ≤ Bw) (k5 : KeepsOthers W W5) (hB5 : Below w.heap.size w W5)
    (c2 : Boxed W5 w.heap.size 28 v) (c3 : Boxed W5 (w.heap.size + 1) 9 (.string (strOf (au ((pre ++ [x]).map payP)).1))) (c4 : Boxed W5 (w.heap.size + 1 + 1) 3 e0) (c5 : Boxed W5 (w.heap.size + 1 + 1 + 1) 103 .nilIface)
    (c6 : Boxed W5 Bw 103 (chainV (au ((pre ++ [x]).map payP)).2.2)) (cb : Boxed W5 (Bw + 1) 9 (.string s)) (hok : ∀ x ∈ pre, okP (payP x)) (hx : okP (payP x)) (hb6 : Below (Bw + 1 + 1) W5 w1) (hk6 : KeepsOthers W5 w1)
    (hown : w1.ownsRow (Bw + 1 + 1) 9 1 v' (pre.length + 1) (texts (pre.map payP) ++ [.string T])) (hT : T = strOf (txt (payP x)))
    (hW7 : (w1.setCell ⟨w.heap.size, 0, none⟩ v').setCell ⟨w.heap.size + 1 + 1, 0, none⟩ (.int .i64 (x.1.1 : Nat)) = W7) :
    KeepsOthers W W7 ∧ KeepB (Bw + 1) s W W7 ∧ ReadI s w Bw (pre ++ [x]) W7 := by
  have hv' : v' ≠ .slice none 0 0 := by obtain ⟨g, cp, rfl⟩ := ownsRow_succ hown; simp
  have d2 := bxOther ((bxBelow c2 hb6 (by omega)).set v') (w.heap.size + 1 + 1) (.int .i64 (x.1.1 : Nat)) (by omega)
  have d3 := bxOther (bxOther (bxBelow c3 hb6 (by omega)) w.heap.size v' (by omega)) (w.heap.size + 1 + 1) (.int .i64 (x.1.1 : Nat)) (by omega)
  have d4 := (bxOther (bxBelow c4 hb6 (by omega)) w.heap.size v' (by omega)).set (.int .i64 (x.1.1 : Nat))
  have d5 := bxOther (bxOther (bxBelow c5 hb6 (by omega)) w.heap.size v' (by omega)) (w.heap.size + 1 + 1) (.int .i64 (x.1.1 : Nat)) (by omega)
  have d6 := bxOther (bxOther (bxBelow c6 hb6 (by omega)) w.heap.size v' (by omega)) (w.heap.size + 1 + 1) (.int .i64 (x.1.1 : Nat)) (by omega)
  have db := bxOther (bxOther (bxBelow cb hb6 (by omega)) w.heap.size v' (by omega)) (w.heap.size + 1 + 1) (.int .i64 (x.1.1 : Nat)) (by omega)
  have hr := rowSet (rowSet hown w.heap.size (by omega) v') (w.heap.size + 1 + 1) (by omega) (.int .i64 (x.1.1 : Nat))
  have hk := (hk6.trans (KeepsOthers.setCell w1 ⟨w.heap.size, 0, none⟩ v')).trans (KeepsOthers.setCell _ ⟨w.heap.size + 1 + 1, 0, none⟩ (.int .i64 (x.1.1 : Nat)))
  have hb := ((hB5.trans (hb6.mono (by omega))).setCell (p := ⟨w.heap.size, 0, none⟩) (by simp) v').setCell (p := ⟨w.heap.size + 1 + 1, 0, none⟩) (by simp only; omega) (.int .i64 (x.1.1 : Nat))
  rw [hW7] at d2 d3 d4 d5 d6 db hr hk hb
  refine ⟨k5.trans hk, fun _ => db, ⟨⟨_, d2, ?_, ?_⟩, d3, ?_, d5, d6, db, ?_⟩, hb⟩
  · rw [List.length_append, List.length_singleton]
    have e : texts ((pre ++ [x]).map payP) = texts (pre.map payP) ++ [.string T] := by unfold texts; rw [List.map_append, List.map_append, hT]; rfl
    rw [e]; exact hr
  · constructor
    · intro h; exact absurd h hv'
    · intro h; simp at h
  · rw [endOf_snoc]; exact d4
  · intro y hy
    rcases List.mem_append.1 hy with hy | hy
    · exact hok y hy
    · rw [List.mem_singleton.1 hy]; exact hx
set_option maxHeartbeats 2000000 in
theorem areadW (s : ByteArray) (w : World) (hs : s.size ≤ 1048576) : Calls Tryz.prog 54 #[.string s] w (ReadPost s w) := by
  obtain ⟨i0, hi, hz0, hz1, hz2⟩ := info_parts infoS
  refine (callsIn_wide (n := 4)).1 ?_
  refine callsIn_of_wp_marks Tryz.func54 rfl trivial ?_ rfl
  simp only [Tryz.ntmps54, List.size_toArray, List.length_cons, List.length_nil, Nat.reduceAdd, Nat.reduceSub, Array.replicate_succ, Array.replicate_zero, List.push_toArray, List.append_toArray, List.nil_append, List.cons_append]
  gi_wp2
  refine ⟨trivial, (callsIn_wide.2 (afirstW _)).mono ?_⟩
  rintro e w1 ⟨rfl, hb1⟩
  obtain ⟨b2, b3, b4, b5, hsz, hbl⟩ := boxed4 w (.slice none 0 0) (.string ⟨#[]⟩) (.int .i64 0) .nilIface 28 9 3 103 _ rfl
  have B2 := Lib.hid (bxBelow b2 hb1 (by rw [hsz]; omega))
  have B3 := bxBelow b3 hb1 (by rw [hsz]; omega)
  have B4 := Lib.hid (bxBelow b4 hb1 (by rw [hsz]; omega))
  have B5 := Lib.hid (bxBelow b5 hb1 (by rw [hsz]; omega))
  have c3 := B3.cell
  have f3 := B3.frozen
  have HB3 := Lib.hid B3
  have HBL := Lib.hid (hbl.trans (hb1.mono (by rw [hsz]; omega)))
  have HS1 : Hid (w.heap.size + 4 ≤ w1.heap.size) := by unfold Hid; rw [← hsz]; exact hb1.size
  clear b2 b3 b4 b5 hsz hbl hb1 B3
  gi_wp2
  refine ⟨trivial, (apaysW _ s _).mono ?_⟩
  rintro e w2 ⟨rfl, rfl⟩
  gi_wp2
  obtain ⟨W0, hW0⟩ : ∃ W0, (((w1.setCell ⟨w.heap.size + 1, 0, none⟩ (.string (strOf firstL))).alloc (.cells #[.nilIface] 103)).alloc (.cells #[.string s] 9)) = W0 := ⟨_, rfl⟩
  obtain ⟨Bw, hBw⟩ : ∃ Bw, w1.heap.size = Bw := ⟨_, rfl⟩
  have hs0 : W0.heap.size = Bw + 1 + 1 := by rw [← hW0]; simp only [World.size_alloc]; rw [← hBw]; simp [World.setCell]
  have hbx : Boxed W0 (Bw + 1) 9 (.string s) := by
    rw [← hW0]
    have := Boxed.new ((w1.setCell ⟨w.heap.size + 1, 0, none⟩ (.string (strOf firstL))).alloc (.cells #[.nilIface] 103)) 9 (.string s)
    rwa [show ((w1.setCell ⟨w.heap.size + 1, 0, none⟩ (.string (strOf firstL))).alloc (.cells #[.nilIface] 103)).heap.size = Bw + 1 by rw [← hBw]; simp [World.setCell]] at this
  have hb6 : Boxed W0 Bw 103 .nilIface := by
    rw [← hW0]
    have := (Boxed.new (w1.setCell ⟨w.heap.size + 1, 0, none⟩ (.string (strOf firstL))) 103 .nilIface).alloc (.cells #[.string s] 9)
    rwa [show (w1.setCell ⟨w.heap.size + 1, 0, none⟩ (.string (strOf firstL))).heap.size = Bw by rw [← hBw]; simp [World.setCell]] at this
  have hI0 : ReadI s w Bw [] W0 := by
    rw [← hW0] at hb6 hbx ⊢
    exact ⟨⟨⟨_, ((bxOther B2.out _ _ (by omega)).alloc _).alloc _, World.ownsRow_nil _ _ _ _, by simp⟩, ((HB3.out.set _).alloc _).alloc _, ((bxOther B4.out _ _ (by omega)).alloc _).alloc _, ((bxOther B5.out _ _ (by omega)).alloc _).alloc _, hb6, hbx, by simp⟩, ((HBL.out.setCell (p := ⟨w.heap.size + 1, 0, none⟩) (by simp) _).alloc (by simp [World.setCell]; have := HS1.out; omega) _).alloc (by simp [World.setCell]; have := HS1.out; omega) _⟩
  have HI0 := Lib.hid hI0
  have HS0 : Hid (w.heap.size + 4 ≤ Bw) := by unfold Hid; rw [← hBw]; exact HS1.out
  rw [hW0, hBw]
  clear hI0 hb6 hW0 hBw B2 HB3 B4 B5 HBL HS1 c3 f3
  refine wpIn_rangeFunc_ownF rfl (by decide) (gf := 116) (lb := #[.pointer (some ⟨Bw + 1, 0, none⟩)]) rfl trivial (enters_of Tryz.func116 (by kernel_rfl) rfl)
    (apay_stops _ (Bw + 1) (by decide) s hs W0 hbx) keepB_t keepB_b (Below.refl _ _) (fun _ => rfl)
    (ReadI s w Bw) (ReadX w) (readI_own s w Bw _ (by rw [hs0]; have := HS0.out; omega)) (fun c => readX_own w c _ (by rw [hs0]; have := HS0.out; omega)) HI0.out
    (fun x => { tmps := #[.string s, undef, .pointer (some ⟨w.heap.size, 0, none⟩), .pointer (some ⟨w.heap.size + 1, 0, none⟩), .pointer (some ⟨w.heap.size + 1 + 1, 0, none⟩), .pointer (some ⟨w.heap.size + 1 + 1 + 1, 0, none⟩), .pointer (some ⟨Bw, 0, none⟩), .int .i64 (x.1.1 : Nat), .string x.1.2, undef, .string (strOf firstL), .string s, .func (.func 116) #[] #[.pointer (some ⟨Bw + 1, 0, none⟩)], .int .i64 (x.1.1 : Nat), .string x.1.2, undef, undef, undef, undef, undef, undef, undef, undef, undef, undef, undef, undef, undef, undef, undef, undef, undef, undef, undef, undef, undef, undef, undef, undef, undef, undef, undef, undef, undef, undef, undef, undef, undef, undef, undef, undef, undef, undef, undef, undef, undef, undef, undef, undef, undef, undef, undef], defers := [] }) ?assign ?body ?done ?stop
  case assign =>
    intro l x W K hK
    simp only [Pay.enc]
    gi_wp2
    exact hK
  case body =>
    rintro l pre ⟨⟨e, q⟩, hxe, hxq⟩ W ⟨⟨⟨v, hv, hrow, hnil⟩, b3, b4, b5, b6, bb, hok⟩, hB⟩ hlt
    dsimp only at hxe hxq ⊢
    obtain ⟨p, cap, rfl⟩ := rowShape hrow
    have hmx : Tryz.prog.follows .mixedOrders = true := by kernel_rfl
    have hc2 := hv.cell
    have hf2 := hv.frozen
    have hc3 := b3.cell
    have hf3 := b3.frozen
    have hc4 := b4.cell
    have hf4 := b4.frozen
    have hc5 := b5.cell
    have hf5 := b5.frozen
    have hc6 := b6.cell
    have hf6 := b6.frozen
    by_cases hko : okP (bs q)
    · have hq1 : 32 ≤ q.size := by unfold okP at hko; rw [length_bs] at hko; omega
      have hq2 : q.size ≤ 1056 := by unfold okP at hko; rw [length_bs] at hko; omega
      obtain ⟨L, hL⟩ : ∃ L, (au (pre.map payP)).1 = L := ⟨_, rfl⟩
      obtain ⟨o, ho⟩ : ∃ o, (au (pre.map payP)).2.2 = o := ⟨_, rfl⟩
      obtain ⟨L', hL'⟩ : ∃ L', nextL L (txt (bs q)) = L' := ⟨_, rfl⟩
      obtain ⟨T, hT⟩ : ∃ T, q.extract 0 (q.size - 32) = T := ⟨_, rfl⟩
      obtain ⟨R, hR⟩ : ∃ R, q.extract (q.size - 32) q.size = R := ⟨_, rfl⟩
      have hTs : T.size = q.size - 32 := by rw [← hT, ByteArray.size_extract]; omega
      have hbT : bs T = txt (bs q) := by rw [← hT, bs_extract]; unfold txt; rw [length_bs, List.drop_zero]; rfl
      have hbR : bs R = lnk (bs q) := by rw [← hR, bs_from]; unfold lnk; rw [length_bs]
      have hL256 : ∀ c ∈ L, c < 256 := by rw [← hL]; exact au_lt _
      have hLl : L.length = 32 := by rw [← hL]; exact length_au _
      have HN := Lib.hid (anextW (strOf L) T)
      rw [bs_strOf _ hL256, hbT, hL'] at HN
      rw [hL] at b3 hc3
      rw [ho] at b6 hc6
      have HNT : Hid (T.size ≤ 1048576) := by unfold Hid; omega
      have HNL : Hid ((strOf L).size ≤ 1048576) := by unfold Hid; rw [size_strOf, hLl]; decide
      have HLd := Lib.hid hL
      have HOd := Lib.hid ho
      have HL' := Lib.hid hL'
      have HT := Lib.hid hT
      have HR := Lib.hid hR
      have HTS := Lib.hid hTs
      have HBT := Lib.hid hbT
      have HBR := Lib.hid hbR
      clear hL ho hL' hR hTs hbT hbR hL256 hLl hc2 hf2 hc4 hf4 hc5 hf5 hc6 hf6
      gi_wp2
      rw [hT]
      refine ⟨trivial, CallsIn.inRound l ((callsIn_wide.2 (HN.out _ HNL.out HNT.out)).mono ?_)⟩
      rintro e1 w3 ⟨rfl, hb3⟩
      have hg3 : W.grownBy w3 none := ⟨hb3.os, hb3.tape, hb3.output, hb3.size, fun k hk _ => hb3.block k hk⟩
      have HK3 := Lib.hid (KeepsOthers.of_grownBy hg3 (fun j o ej hj => by cases ej))
      have HB3 := Lib.hid (hB.trans (hb3.mono hB.size))
      have hrow3 := hrow.kept hg3 (by cases (Value.slice p pre.length cap).ownBlock <;> simp)
      have v3 := bxBelow hv hb3 hv.lt
      have d3 := bxBelow b3 hb3 b3.lt
      have d4 := bxBelow b4 hb3 b4.lt
      have d5 := bxBelow b5 hb3 b5.lt
      have d6 := bxBelow b6 hb3 b6.lt
      have db := bxBelow bb hb3 bb.lt
      have g3c := d3.cell
      have g3f := d3.frozen
      clear hv b3 b4 b5 b6 bb hb3 hg3 hrow hB hc3 hf3 hT
      gi_wp2
      have hr4 := hrow3.kept (grownBy_setCell' w3 (w.heap.size + 1) (.string (strOf L'))) (.inr (by
        intro e; rcases hrow3.2 with ⟨h, _⟩ | ⟨g, cp, cur, h, hg, _⟩
        · rw [h] at e; cases e
        · rw [h] at e; simp only [Value.ownBlock, Option.some.injEq] at e; have := HS0.out; omega))
      have v4 := bxOther v3 (w.heap.size + 1) (.string (strOf L')) (by omega)
      have e3 := d3.set (.string (strOf L'))
      have e4 := bxOther d4 (w.heap.size + 1) (.string (strOf L')) (by omega)
      have e5 := bxOther d5 (w.heap.size + 1) (.string (strOf L')) (by omega)
      have e6 := bxOther d6 (w.heap.size + 1) (.string (strOf L')) (by have := HS0.out; omega)
      have eb := bxOther db (w.heap.size + 1) (.string (strOf L')) (by have := HS0.out; omega)
      have HK4 := Lib.hid (HK3.out.trans (KeepsOthers.setCell w3 ⟨w.heap.size + 1, 0, none⟩ (.string (strOf L'))))
      have HB4 := Lib.hid (HB3.out.setCell (p := ⟨w.heap.size + 1, 0, none⟩) (by simp) (.string (strOf L')))
      clear HK3 HB3 hrow3 v3 d3 d4 d5 d6 db g3c g3f
      obtain ⟨W4, hW4⟩ : ∃ W4, w3.setCell ⟨w.heap.size + 1, 0, none⟩ (.string (strOf L')) = W4 := ⟨_, rfl⟩
      rw [hW4] at hr4 v4 e3 e4 e5 e6 eb HK4 HB4 ⊢
      clear hW4
      have g3 := e3.cell
      have hTq : T.size ≤ q.size := by have := HTS.out; omega
      have hR' : q.extract T.size q.size = R := by rw [HTS.out]; exact HR.out
      have hau1 : (au ((pre ++ [(⟨(e, q), hxe, hxq⟩ : Pay)]).map payP)).1 = L' := by
        rw [List.map_append, List.map_singleton, au_snoc]; unfold auF; rw [HLd.out]; exact HL'.out
      have hau2 : (au ((pre ++ [(⟨(e, q), hxe, hxq⟩ : Pay)]).map payP)).2.2 = if o = none ∧ L' ≠ lnk (bs q) then some pre.length else o := by
        rw [List.map_append, List.map_singleton, au_snoc]; unfold auF; rw [HLd.out, HOd.out, au_len, List.length_map]; rw [show payP (⟨(e, q), hxe, hxq⟩ : Pay) = bs q from rfl, HL'.out]
      have hL256 : ∀ c ∈ L', c < 256 := by rw [← HL'.out]; exact nextL_lt _ _
      have hLR : strOf L' = R ↔ L' = lnk (bs q) := ⟨fun h => by rw [← HBR.out, ← h, bs_strOf _ hL256], fun h => by rw [h, ← HBR.out, strOf_bs]⟩
      have HM1 : Hid (pre.length + 1 ≤ maxLen) := by
        have hm : (1048577 : Nat) ≤ maxLen := by decide
        unfold Hid; omega
      have HM2 : Hid ((pre.length + 1) * 16 ≤ 140737488355328) := by unfold Hid; omega
      have HA1 := Lib.hid hau1
      have HA2 := Lib.hid hau2
      have HLR := Lib.hid hLR
      clear hau1 hau2 hL256 hLR
      by_cases hcmp : strOf L' = R
      · have hau2' : (au ((pre ++ [(⟨(e, q), hxe, hxq⟩ : Pay)]).map payP)).2.2 = o := by rw [HA2.out, if_neg (fun h => h.2 (HLR.out.1 hcmp))]
        have HA3 := Lib.hid hau2'
        clear hau2'
        have g6 := e6.cell
        refine region_ex W4.drew ?_
        apply Exists.intro
        apply And.intro
        · gi_region_with_o fail
          all_goals exact ⟨rfl, rfl⟩
        · clear g3 g6
          replace v4 := bxDrew v4
          replace e3 := bxDrew e3
          replace e4 := bxDrew e4
          replace e5 := bxDrew e5
          replace e6 := bxDrew e6
          replace eb := bxDrew eb
          replace hr4 := rowDrew hr4
          have HK5 := Lib.hid (HK4.out.trans (KeepsOthers.drew W4))
          have HB5 := Lib.hid HB4.out.drew
          generalize W4.drew = W5 at *
          have g2 := v4.cell
          have g2f := v4.frozen
          have g4 := e4.cell
          have g4f := e4.frozen
          have hlw := eb.lt
          gi_wp2_with (gi_at_builtin; refine wpListIn_append_own _ rfl _ _ 28 rfl (Bw + 1 + 1) 9 i0 (.string ⟨#[]⟩) 1 16 Tryz.underlying28 hi hz0 hz1 hz2 rfl (by decide) _ _ _ rfl (hr4.alloc _) ⟨W5.heap.size, 0, none⟩ 1 1 [.string T] rfl rfl (cell_one_new _ _ _) (by simp [Value.oneCell']) HM1.out HM2.out (by simp; omega) ?_; intro v' w7 hown' hgrow _; obtain ⟨hb6, hk6⟩ := rowGrown hr4 (by omega) hgrow; have y2 := (bxBelow v4 hb6 (by have := HS0.out; omega)); have y4 := (bxBelow e4 hb6 (by have := HS0.out; omega)); have y2c := y2.cell; have y2f := y2.frozen; have y4c := (bxOther y4 w.heap.size v' (by omega)).cell; have y4f := (bxOther y4 w.heap.size v' (by omega)).frozen; obtain ⟨g', cap', rfl⟩ := ownsRow_succ hown')
          refine goodEnd (x := ⟨(e, q), hxe, hxq⟩) HS0.out HK5.out HB5.out v4 (by rw [HA1.out]; exact e3) e4 e5 (by rw [HA3.out]; exact e6) eb hok hko hb6 hk6 hown' (by rw [← strOf_bs T, HBT.out]; rfl) rfl
      · have hne : ¬ (strOf L').toList = R.toList := fun e => hcmp (by
          rw [Lib.toList_data, Lib.toList_data] at e
          exact congrArg ByteArray.mk (Array.toList_inj.1 e))
        have hsd : ((strOf L').toList == R.toList) = false := by simp [hne]
        rcases o with _ | i
        · have hau2' : (au ((pre ++ [(⟨(e, q), hxe, hxq⟩ : Pay)]).map payP)).2.2 = some pre.length := by rw [HA2.out, if_pos ⟨rfl, fun h => hcmp (HLR.out.2 h)⟩]
          have HA3 := Lib.hid hau2'
          clear hau2'
          have g6 : W4.cell? ⟨Bw, 0, none⟩ = some .nilIface := e6.cell
          refine region_ex W4.drew ?_
          apply Exists.intro
          apply And.intro
          · gi_region_with_o fail
            all_goals exact ⟨rfl, rfl⟩
          · clear g3 g6
            replace v4 := bxDrew v4
            replace e3 := bxDrew e3
            replace e4 := bxDrew e4
            replace e5 := bxDrew e5
            replace e6 := bxDrew e6
            replace eb := bxDrew eb
            replace hr4 := rowDrew hr4
            have HK5 := Lib.hid (HK4.out.trans (KeepsOthers.drew W4))
            have HB5 := Lib.hid HB4.out.drew
            generalize W4.drew = W5 at *
            have g2 := v4.cell
            have g6 := e6.cell
            have g6f := e6.frozen
            obtain ⟨W6, hW6⟩ : ∃ W6, W5.setCell ⟨Bw, 0, none⟩ (.iface 153 (.agg #[.string ⟨#[99, 104, 97, 105, 110]⟩, .iface 151 (.agg #[.int .i64 (pre.length : Nat), .int .i64 192])])) = W6 := ⟨_, rfl⟩
            have hn0 : w.heap.size + 4 ≤ Bw := HS0.out
            have v6 := bxOther v4 Bw (.iface 153 (.agg #[.string ⟨#[99, 104, 97, 105, 110]⟩, .iface 151 (.agg #[.int .i64 (pre.length : Nat), .int .i64 192])])) (by omega)
            have x3 := bxOther e3 Bw (.iface 153 (.agg #[.string ⟨#[99, 104, 97, 105, 110]⟩, .iface 151 (.agg #[.int .i64 (pre.length : Nat), .int .i64 192])])) (by omega)
            have x4 := bxOther e4 Bw (.iface 153 (.agg #[.string ⟨#[99, 104, 97, 105, 110]⟩, .iface 151 (.agg #[.int .i64 (pre.length : Nat), .int .i64 192])])) (by omega)
            have x5 := bxOther e5 Bw (.iface 153 (.agg #[.string ⟨#[99, 104, 97, 105, 110]⟩, .iface 151 (.agg #[.int .i64 (pre.length : Nat), .int .i64 192])])) (by omega)
            have x6 := e6.set (.iface 153 (.agg #[.string ⟨#[99, 104, 97, 105, 110]⟩, .iface 151 (.agg #[.int .i64 (pre.length : Nat), .int .i64 192])]))
            have xb := bxOther eb Bw (.iface 153 (.agg #[.string ⟨#[99, 104, 97, 105, 110]⟩, .iface 151 (.agg #[.int .i64 (pre.length : Nat), .int .i64 192])])) (by omega)
            have hr6 := rowSet hr4 Bw (by omega) (.iface 153 (.agg #[.string ⟨#[99, 104, 97, 105, 110]⟩, .iface 151 (.agg #[.int .i64 (pre.length : Nat), .int .i64 192])]))
            have HK6 := Lib.hid (HK5.out.trans (KeepsOthers.setCell W5 ⟨Bw, 0, none⟩ (.iface 153 (.agg #[.string ⟨#[99, 104, 97, 105, 110]⟩, .iface 151 (.agg #[.int .i64 (pre.length : Nat), .int .i64 192])]))))
            have HB6 := Lib.hid (HB5.out.setCell (p := ⟨Bw, 0, none⟩) (by simp only; omega) (.iface 153 (.agg #[.string ⟨#[99, 104, 97, 105, 110]⟩, .iface 151 (.agg #[.int .i64 (pre.length : Nat), .int .i64 192])])))
            rw [hW6] at v6 x3 x4 x5 x6 xb hr6 HK6 HB6
            clear hn0 e3 e4 e5 eb hr4
            have h2 := v6.cell
            have h2f := v6.frozen
            have h4 := x4.cell
            have h4f := x4.frozen
            have hlw := xb.lt
            gi_wp2_with (gi_at_builtin; refine wpListIn_append_own _ rfl _ _ 28 rfl (Bw + 1 + 1) 9 i0 (.string ⟨#[]⟩) 1 16 Tryz.underlying28 hi hz0 hz1 hz2 rfl (by decide) _ _ _ rfl (hr6.alloc _) ⟨W6.heap.size, 0, none⟩ 1 1 [.string T] rfl rfl (cell_one_new _ _ _) (by simp [Value.oneCell']) HM1.out HM2.out (by simp; omega) ?_; intro v' w7 hown' hgrow _; obtain ⟨hb6, hk6⟩ := rowGrown hr6 (by omega) hgrow; have y2 := (bxBelow v6 hb6 (by have := HS0.out; omega)); have y4 := (bxBelow x4 hb6 (by have := HS0.out; omega)); have y2c := y2.cell; have y2f := y2.frozen; have y4c := (bxOther y4 w.heap.size v' (by omega)).cell; have y4f := (bxOther y4 w.heap.size v' (by omega)).frozen; obtain ⟨g', cap', rfl⟩ := ownsRow_succ hown')
            refine goodEnd (x := ⟨(e, q), hxe, hxq⟩) HS0.out HK6.out HB6.out v6 (by rw [HA1.out]; exact x3) x4 x5 (by rw [HA3.out]; exact x6) xb hok hko hb6 hk6 hown' (by rw [← strOf_bs T, HBT.out]; rfl) rfl
        · have hau2' : (au ((pre ++ [(⟨(e, q), hxe, hxq⟩ : Pay)]).map payP)).2.2 = some i := by rw [HA2.out, if_neg (fun h => by cases h.1)]
          have HA3 := Lib.hid hau2'
          clear hau2'
          have g6 : W4.cell? ⟨Bw, 0, none⟩ = some (.iface 153 (.agg #[.string wordC, .iface 151 (.agg #[.int .i64 (i : Nat), .int .i64 192])])) := e6.cell
          refine region_ex W4.drew ?_
          apply Exists.intro
          apply And.intro
          · gi_region_with_o fail
            all_goals exact ⟨rfl, rfl⟩
          · clear g3 g6
            replace v4 := bxDrew v4
            replace e3 := bxDrew e3
            replace e4 := bxDrew e4
            replace e5 := bxDrew e5
            replace e6 := bxDrew e6
            replace eb := bxDrew eb
            replace hr4 := rowDrew hr4
            have HK5 := Lib.hid (HK4.out.trans (KeepsOthers.drew W4))
            have HB5 := Lib.hid HB4.out.drew
            generalize W4.drew = W5 at *
            have g2 := v4.cell
            have g2f := v4.frozen
            have g4 := e4.cell
            have g4f := e4.frozen
            have hlw := eb.lt
            gi_wp2_with (gi_at_builtin; refine wpListIn_append_own _ rfl _ _ 28 rfl (Bw + 1 + 1) 9 i0 (.string ⟨#[]⟩) 1 16 Tryz.underlying28 hi hz0 hz1 hz2 rfl (by decide) _ _ _ rfl (hr4.alloc _) ⟨W5.heap.size, 0, none⟩ 1 1 [.string T] rfl rfl (cell_one_new _ _ _) (by simp [Value.oneCell']) HM1.out HM2.out (by simp; omega) ?_; intro v' w7 hown' hgrow _; obtain ⟨hb6, hk6⟩ := rowGrown hr4 (by omega) hgrow; have y2 := (bxBelow v4 hb6 (by have := HS0.out; omega)); have y4 := (bxBelow e4 hb6 (by have := HS0.out; omega)); have y2c := y2.cell; have y2f := y2.frozen; have y4c := (bxOther y4 w.heap.size v' (by omega)).cell; have y4f := (bxOther y4 w.heap.size v' (by omega)).frozen; obtain ⟨g', cap', rfl⟩ := ownsRow_succ hown')
            refine goodEnd (x := ⟨(e, q), hxe, hxq⟩) HS0.out HK5.out HB5.out v4 (by rw [HA1.out]; exact e3) e4 e5 (by rw [HA3.out]; exact e6) eb hok hko hb6 hk6 hown' (by rw [← strOf_bs T, HBT.out]; rfl) rfl
    · have hq : q.size < 32 ∨ 1056 < q.size := by unfold okP at hko; rw [length_bs] at hko; omega
      have hx : ∃ x ∈ pre ++ [(⟨(e, q), hxe, hxq⟩ : Pay)], ¬ okP (payP x) := ⟨_, List.mem_append_right _ (List.mem_singleton.2 rfl), hko⟩
      rcases hq with hq | hq
      · gi_wp2
        exact bad4 pre.length _ _ hx hv b3 b4 b5 hB _ rfl rfl
      · have hq1 : 32 ≤ q.size := by omega
        gi_wp2
        exact bad4 pre.length _ _ hx hv b3 b4 b5 hB _ rfl rfl
  case done =>
    rintro D ys W hD ⟨hy1, hy2⟩ ⟨⟨⟨v, hv, hrow, hnil⟩, b3, b4, b5, b6, bb, hok⟩, hB⟩ hK
    obtain ⟨p, cap, rfl⟩ := rowShape hrow
    have hmx : Tryz.prog.follows .mixedOrders = true := by kernel_rfl
    rw [hy1] at b3 b6
    rw [hy2, hy1] at b4
    have hc2 := hv.cell
    have hf2 := hv.frozen
    have hc3 := b3.cell
    have hf3 := b3.frozen
    have hc4 := b4.cell
    have hf4 := b4.frozen
    have hc5 := b5.cell
    have hf5 := b5.frozen
    have hf6 := b6.frozen
    have n0 : Bw ≠ w.heap.size := by have := HS0.out; omega
    have n1 : Bw ≠ w.heap.size + 1 := by have := HS0.out; omega
    have n2 : Bw ≠ w.heap.size + 1 + 1 := by have := HS0.out; omega
    have n3 : Bw ≠ w.heap.size + 1 + 1 + 1 := by have := HS0.out; omega
    have m0 := n0.symm
    have m1 := n1.symm
    have m2 := n2.symm
    have m3 := n3.symm
    obtain ⟨o, ho⟩ : ∃ o, (au (scan (bs s))).2.2 = o := ⟨_, rfl⟩
    have hall : ∀ p ∈ scan (bs s), okP p := by
      rw [← hy1]; intro p hp; obtain ⟨x, hx, rfl⟩ := List.mem_map.1 hp; exact hok x hx
    rcases o with _ | i
    · rw [ho] at b6
      have hc6 : W.cell? ⟨Bw, 0, none⟩ = some .nilIface := b6.cell
      gi_wp2
      gi_region_o
      generalize hWf : World.drew _ = Wf
      obtain ⟨hKf, hf⟩ := done4 hv b3 b4 b5 hB hrow (by have := HS0.out; omega) (by have := HS0.out; omega) hK Wf hWf
      obtain ⟨f2, f3, f4, f5, f6, f7⟩ := hf (.deferred none)
      clear hWf hc2 hf2 hc3 hf3 hc4 hf4 hc5 hf5 hf6 hc6 n0 n1 n2 n3 m0 m1 m2 m3
      gi_wp2
      refine ⟨by simp, .inl ⟨_, _, rfl, run_takeDeferred hKf, ?_⟩⟩
      refine ⟨.tuple #[.slice p ys.length cap, .string (strOf (au (scan (bs s))).1), .int .i64 (lens (scan (bs s)) : Nat), chainV none], ?_, .inr ⟨.slice p ys.length cap, hall, by rw [ho], ?_, ?_, f7⟩⟩
      · simp [results, Tryz.f54, go_sem, f2, f3, f4, f5]
        rfl
      · rw [← hy1, List.length_map]; exact f6
      · rw [hnil, ← hy1, List.map_eq_nil_iff]
    · rw [ho] at b6
      have hc6 : W.cell? ⟨Bw, 0, none⟩ = some (.iface 153 (.agg #[.string wordC, .iface 151 (.agg #[.int .i64 (i : Nat), .int .i64 192])])) := b6.cell
      gi_wp2
      gi_region_o
      generalize hWf : World.drew _ = Wf
      obtain ⟨hKf, hf⟩ := done4 hv b3 b4 b5 hB hrow (by have := HS0.out; omega) (by have := HS0.out; omega) hK Wf hWf
      obtain ⟨f2, f3, f4, f5, f6, f7⟩ := hf (.deferred none)
      clear hWf hc2 hf2 hc3 hf3 hc4 hf4 hc5 hf5 hf6 hc6 n0 n1 n2 n3 m0 m1 m2 m3
      gi_wp2
      refine ⟨by simp, .inl ⟨_, _, rfl, run_takeDeferred hKf, ?_⟩⟩
      refine ⟨.tuple #[.slice p ys.length cap, .string (strOf (au (scan (bs s))).1), .int .i64 (lens (scan (bs s)) : Nat), chainV (some i)], ?_, .inr ⟨.slice p ys.length cap, hall, by rw [ho], ?_, ?_, f7⟩⟩
      · simp [results, Tryz.f54, go_sem, f2, f3, f4, f5]
        rfl
      · rw [← hy1, List.length_map]; exact f6
      · rw [hnil, ← hy1, List.map_eq_nil_iff]
  case stop =>
    rintro D c pre W hD hpre ⟨⟨i, rfl, ⟨x, hx, hnk⟩, b2, b3, b4, b5⟩, hB⟩ hK
    gi_wp2
    refine ⟨by simp, .inl ⟨_, _, rfl, run_takeDeferred hK, ?_⟩⟩
    have f2 := endCell (o' := .deferred none) b2 hK rfl
    have f3 := endCell (o' := .deferred none) b3 hK rfl
    have f4 := endCell (o' := .deferred none) b4 hK rfl
    have f5 := endCell (o' := .deferred none) b5 hK rfl
    refine ⟨.tuple #[.slice none 0 0, .string ⟨#[]⟩, .int .i64 0, formV i], ?_, .inl ⟨i, ?_, rfl, ?_⟩⟩
    · simp [results, Tryz.f54, go_sem, f2, f3, f4, f5]
      trace_state
    · intro h
      refine hnk (h _ ?_)
      obtain ⟨t, ht⟩ := hpre
      rw [← ht]
      exact List.mem_append_left _ (List.mem_map.2 ⟨x, hx, rfl⟩)
    · exact hB.trans (belowK_b (w := w) (Nat.le_refl _) W D _ _ (by have := HS0.out; omega) hK rfl rfl)
end Go.Proofs.YtilpbjcbffbjeaaGreatDoor
