/- The memory of the law WalLives: appends of strings to strings, the life at hand, the state at hand. -/
import Derived.Test.YtilpbjcbffbjeaaDoorWMay
import Derived.Test.YtilpbjcbffbjeaaDoorWCalls
import Derived.Test.YtilpbjcbffbjeaaDoorWDo
import Derived.Deep.Upon
namespace Go.Proofs.YtilpbjcbffbjeaaDoor
set_option linter.unusedVariables false
set_option maxRecDepth 100000
open Go.RowKit
/-- Strings are put behind strings of the call's own. -/
theorem run_appS {w : World} {base : Nat} {v : Value} {ss : List ByteArray} (hown : OwnsS w base v ss) (ty : TypeId) (x : Value) (ns : List ByteArray) (hx : Strs w x ns) (hsz : ss.length + ns.length ≤ 4194304) (hbase : base ≤ w.heap.size) :
    ∃ v' w', (Builtin.append_ #[22, 22] ty #[v, x]).run Tryd.prog w = .ok v' w' ∧ OwnsS w' base v' (ss ++ ns) ∧ w.grownBy w' v.ownBlock ∧ (v'.ownBlock = v.ownBlock ∨ v'.ownBlock = some w.heap.size) := by
  obtain ⟨i0, hi0, hz0, hz1, hz2⟩ := info_parts infoStr
  obtain ⟨p, c, rfl, hc⟩ := hx.form
  rcases Nat.eq_zero_or_pos ns.length with h0 | h0
  · have hn : ns = [] := List.length_eq_zero_iff.1 h0
    subst hn
    rw [List.append_nil]
    have hv : ∃ q n cap, v = .slice q n cap ∧ n ≤ cap := by
      rcases hown.2 with ⟨hv, _⟩ | ⟨g, cap, cur, hv, _, _, h3, _⟩
      · exact ⟨none, 0, 0, hv, Nat.le_refl _⟩
      · exact ⟨_, _, _, hv, h3⟩
    obtain ⟨q, n, cap, rfl, hle⟩ := hv
    refine ⟨_, w, run_append_nothing w 22 22 ty 9 i0 Tryd.underlying22 hi0 q n cap hle _ ?_, hown, ⟨rfl, rfl, rfl, Nat.le_refl _, fun _ _ _ => rfl⟩, .inl rfl⟩
    rcases p with _ | a
    · exact Src.ofNil w Tryd.underlying22 c
    · exact Src.ofSlice w Tryd.underlying22 a 0 c [] (by simp) (fun j u hu => by simp at hu) (fun u hu => by cases hu)
  · obtain ⟨b, off, rfl, _⟩ := hc 0 h0
    have hcell : ∀ j u, (ns.map Value.string)[j]? = some u → w.cell? ((⟨b, off, none⟩ : Addr).add j) = some u := by
      intro j u hu
      have hj : j < ns.length := by have := (List.getElem?_eq_some_iff.1 hu).1; rwa [List.length_map] at this
      obtain ⟨b', off', e, h1⟩ := hc j hj
      injection e with e
      injection e with e1 e2 _
      subst e1 e2
      rw [List.getElem?_map, List.getElem?_eq_getElem hj] at hu
      rw [List.getD_eq_getElem?_getD, List.getElem?_eq_getElem hj] at h1
      rw [← Option.some.inj hu]
      have e3 : (⟨b, off, none⟩ : Addr).add j = ⟨b, off + j, none⟩ := by
        unfold Addr.add
        by_cases hj0 : j = 0
        · subst hj0; rfl
        · simp [hj0]
      rw [e3]
      simpa using h1
    obtain ⟨v', w', h1, h2, h3, _, h5⟩ := run_append_own_at (P := Tryd.prog) w base 22 ty 9 i0 (.string ⟨#[]⟩) 1 16 Tryd.underlying22 hi0 hz0 hz1 hz2 rfl (by decide) v ss.length (ss.map Value.string) hown ⟨b, off, none⟩ ns.length c (ns.map Value.string)
      (by rw [List.length_map, Nat.mul_one]) hcell (fun u hu => by obtain ⟨s, _, rfl⟩ := List.mem_map.1 hu; rfl) (by unfold maxLen; omega) (by omega) hbase
    refine ⟨v', w', h1, ?_, h3, h5⟩
    unfold OwnsS
    rw [List.length_append, List.map_append]
    exact h2
/-- What is no string's block stays in such an append. -/
theorem OwnsS.other {w w' : World} {base : Nat} {v : Value} {ss : List ByteArray} (h : OwnsS w base v ss) (hg : w.grownBy w' v.ownBlock) {k T : Nat} {cur : Array Value} {fr : Nat × Nat} (hk : w.heap[k]? = some (.cells cur T fr)) (hT : T ≠ 9) : w'.heap[k]? = some (.cells cur T fr) := by
  refine (hg.block k (Array.getElem?_eq_some_iff.1 hk).1 fun e => ?_).trans hk
  rcases h.2 with ⟨hv, _⟩ | ⟨g, cap, cur', hv, _, hgc, _⟩
  · rw [hv] at e; cases e
  · rw [hv] at e
    have e : k = g := by simpa [Value.ownBlock] using e
    subst e
    rw [hgc] at hk
    injection hk with hk
    injection hk with _ hk _
    exact hT hk.symm
theorem OwnsS.belowG {w0 w w' : World} {base : Nat} {v : Value} {ss : List ByteArray} (h : OwnsS w base v ss) (hg : w.grownBy w' v.ownBlock) (hb : Below base w0 w) (hz : base ≤ w.heap.size) : Below base w0 w' :=
  hb.grown hg hz (fun k hk => (h.block hk).1)
section
variable {P : Program} {ops : Array Oper} {Q : Exit → Act → World → Prop} {md : Region.Mode} {S : World → Prop} {n : Nat}
theorem threeU (i k m : Nat) {fuel : Nat} {listed : Array Bool} {a : Act} {w : World} (hr : Region.ready md ops listed = [i, k, m])
    (h : if i < n then wpOp P ops Q i (fun a' w' => S w' ∧ wpAnyU P md ops n Q S fuel (listed.setIfInBounds i true) a' w') a w else wpOp P ops Q i (wpAny P md ops Q fuel (listed.setIfInBounds i true)) a w)
    (h2 : if k < n then wpOp P ops Q k (fun a' w' => S w' ∧ wpAnyU P md ops n Q S fuel (listed.setIfInBounds k true) a' w') a w else wpOp P ops Q k (wpAny P md ops Q fuel (listed.setIfInBounds k true)) a w)
    (h3 : if m < n then wpOp P ops Q m (fun a' w' => S w' ∧ wpAnyU P md ops n Q S fuel (listed.setIfInBounds m true) a' w') a w else wpOp P ops Q m (wpAny P md ops Q fuel (listed.setIfInBounds m true)) a w) : wpAnyU P md ops n Q S (fuel + 1) listed a w :=
  wpAnyU_all [i, k, m] hr (by simp) (fun j hj => by
    rcases List.mem_cons.1 hj with e | hj
    · subst e; exact h
    · rcases List.mem_cons.1 hj with e | hj
      · subst e; exact h2
      · have e : j = m := by simpa using hj
        subst e; exact h3)
end
/-- append of strings, in a drawn region. -/
theorem step_appS {ops : Array Oper} {o : Oper} {a : Act} {w : World} {K : Act → World → Prop} {Q : Exit → Act → World → Prop} {E : Prop} {base : Nat} {v x : Value} {ss ns : List ByteArray} (hgd : o.guard = none) (s y : Operand)
    (ho : o.op = .call { callee := .builtin .append, args := #[s, y], argTypes := #[22, 22] }) (hs : a.eval s = v) (hy : a.eval y = x) (hown : OwnsS w base v ss) (hx : Strs w x ns) (hsz : ss.length + ns.length ≤ 4194304) (hbase : base ≤ w.heap.size)
    (h : ∀ v' w', OwnsS w' base v' (ss ++ ns) → w.grownBy w' v.ownBlock → (v'.ownBlock = v.ownBlock ∨ v'.ownBlock = some w.heap.size) → K (a.put o.dst v') w') :
    if Region.wanted o (yielded ops a.tmps) = true then Oper.wp Tryd.prog o a w K Q else E := by
  obtain ⟨v', w', h1, h2, h3, h4⟩ := run_appS hown o.type x ns hx hsz hbase
  refine step_runW hgd v' w' ?_ (h v' w' h2 h3 h4)
  unfold execOp
  simp only [ho, resolve, invoke, builtin, Sem.run_bind, Sem.run_pure, Result.andThen_ok, List.map_toArray, List.map_cons, List.map_nil, hs, hy, h1]
theorem OwnsS.emptyL (w : World) : OwnsS (w.alloc (.cells #[] 9)) w.heap.size (.slice (some ⟨w.heap.size, 0, none⟩) 0 0) [] :=
  World.ownsRow_lit (base := w.heap.size) w #[] 0 (Nat.le_refl _) (by decide) rfl
theorem strs_one {w : World} {a : Nat} {s : ByteArray} (h : w.cell? ⟨a, 0, none⟩ = some (.string s)) : Strs w (.slice (some ⟨a, 0, none⟩) 1 1) [s] := by
  refine Strs.mk (ss := [s]) fun i hi => ?_
  obtain rfl : i = 0 := by simpa using hi
  exact ⟨a, 0, rfl, h⟩
/-- A state in its own block. -/
def NowAt (w : World) (nb : Nat) (snap : ByteArray) (ps : List ByteArray) : Prop := ∃ nv, w.heap[nb]? = some (.cells #[.string snap, nv] 50 (0, 0)) ∧ WS w nv ps
theorem NowAt.keep {S : Nat → Prop} {w w' : World} {nb : Nat} {snap : ByteArray} {ps : List ByteArray} (h : NowAt w nb snap ps) (hc : Chg S w w') (hm : Muts S w) (hn : ¬ S nb) : NowAt w' nb snap ps := by
  obtain ⟨nv, h1, h2⟩ := h
  exact ⟨nv, (hc.block nb (Array.getElem?_eq_some_iff.1 h1).1 hn).trans h1, h2.keep hc hm⟩
theorem NowAt.below {w w' : World} {nb : Nat} {snap : ByteArray} {ps : List ByteArray} (h : NowAt w nb snap ps) (hb : Below w.heap.size w w') : NowAt w' nb snap ps := by
  obtain ⟨nv, h1, h2⟩ := h
  exact ⟨nv, (hb.block nb (Array.getElem?_eq_some_iff.1 h1).1).trans h1, h2.below hb⟩
/-- A state, stored into a block of its own. -/
theorem lvNow {w : World} {a base : Nat} {snap : ByteArray} {v : Value} {ss : List ByteArray} {cur : Array Value} (h : w.heap[a]? = some (.cells cur 50 (0, 0))) (ho : OwnsS w base v ss) (hc : cur.size = 2) :
    NowAt ((w.setCell ⟨a, 0, none⟩ (.string snap)).setCell ⟨a, 1, none⟩ v) a snap ss := by
  have h1 := setCell_blk w a 0 (.string snap) h
  have h2 := setCell_blk _ a 1 v h1
  obtain ⟨x, y, rfl⟩ : ∃ x y, cur = #[x, y] := by
    obtain ⟨l⟩ := cur
    match l, hc with
    | [x, y], _ => exact ⟨x, y, rfl⟩
  refine ⟨v, h2, ?_⟩
  have hm : Muts (fun k => k = a) w := by
    intro k _ hk cur T fr hh
    subst hk
    rw [h] at hh
    injection hh with hh
    injection hh with _ hT _
    subst hT
    unfold Fix
    decide
  have hm2 : Muts (fun k => k = a) (w.setCell ⟨a, 0, none⟩ (.string snap)) := by
    intro k _ hk cur T fr hh
    subst hk
    rw [h1] at hh
    injection hh with hh
    injection hh with _ hT _
    subst hT
    unfold Fix
    decide
  exact (ho.ws.keep (Chg.setCell (fun k => k = a) w (j := 0) rfl (.string snap)) hm).keep (Chg.setCell (fun k => k = a) _ (j := 1) rfl v) hm2
/-- A region of a text; a block of a text. -/
def findRegion (n : Nat) : Code → Option Code
  | .region m ops d => if m = n then some (.region m ops d) else none
  | .block _ c => findRegion n c
  | .seq a b => match findRegion n a with
    | some c => some c
    | none => findRegion n b
  | .loop c => findRegion n c
  | .scope c => findRegion n c
  | .cond _ a b => match findRegion n a with
    | some c => some c
    | none => findRegion n b
  | _ => none
def findBlock (n : Nat) : Code → Option Code
  | .block m c => if m = n then some (.block m c) else findBlock n c
  | .seq a b => match findBlock n a with
    | some c => some c
    | none => findBlock n b
  | .loop c => findBlock n c
  | .scope c => findBlock n c
  | .cond _ a b => match findBlock n a with
    | some c => some c
    | none => findBlock n b
  | _ => none
/-- A life in its own block. -/
def XAt (w : World) (xb : Nat) (tv hv : Value) (sn : ByteArray) (N Ag : Int) (cv : Value) : Prop := w.heap[xb]? = some (.cells #[tv, hv, .string sn, .int .i64 N, .int .i64 Ag, cv] 54 (0, 0))
section
variable {w : World} {xb : Nat} {tv hv : Value} {sn : ByteArray} {N Ag : Int} {cv : Value}
theorem XAt.c0 (h : XAt w xb tv hv sn N Ag cv) : w.cell? ⟨xb, 0, none⟩ = some tv := by rw [cell_of_row w xb 0 _ _ _ h]; rfl
theorem XAt.c1 (h : XAt w xb tv hv sn N Ag cv) : w.cell? ⟨xb, 1, none⟩ = some hv := by rw [cell_of_row w xb 1 _ _ _ h]; rfl
theorem XAt.c2 (h : XAt w xb tv hv sn N Ag cv) : w.cell? ⟨xb, 2, none⟩ = some (.string sn) := by rw [cell_of_row w xb 2 _ _ _ h]; rfl
theorem XAt.c3 (h : XAt w xb tv hv sn N Ag cv) : w.cell? ⟨xb, 3, none⟩ = some (.int .i64 N) := by rw [cell_of_row w xb 3 _ _ _ h]; rfl
theorem XAt.c4 (h : XAt w xb tv hv sn N Ag cv) : w.cell? ⟨xb, 4, none⟩ = some (.int .i64 Ag) := by rw [cell_of_row w xb 4 _ _ _ h]; rfl
theorem XAt.c5 (h : XAt w xb tv hv sn N Ag cv) : w.cell? ⟨xb, 5, none⟩ = some cv := by rw [cell_of_row w xb 5 _ _ _ h]; rfl
theorem XAt.keep {S : Nat → Prop} {w' : World} (h : XAt w xb tv hv sn N Ag cv) (hc : Chg S w w') (hn : ¬ S xb) : XAt w' xb tv hv sn N Ag cv := (hc.block xb (Array.getElem?_eq_some_iff.1 h).1 hn).trans h
end
/-! The law's state within a life. -/
theorem LC.many2 {D : Dk} {M k : Nat} {L : Lg} {snap : ByteArray} {ps : List ByteArray} (h : LC D.l M 0 L snap ps k) (h2 : D.l.length = 2) (hok : DOk D) : Many D := by
  intro f hf
  have ho := h.oth
  have hc := h.counts
  have hw := congrArg List.length h.cnt.ws
  rw [List.length_map, length_recW, List.length_map, List.length_drop] at hw
  have hfew := h.few hok.size
  by_cases e : f = L.counts
  · subst e; omega
  · have e2 : f = L.other := by omega
    subst e2
    rw [h.other]
    show 0 < 1099511627776
    decide
/-- What the plain side of the inner loop keeps, behind k appends. -/
structure LvP (D : Dk) (L : Lg) (snap : ByteArray) (ps : List ByteArray) (kk : Nat) (may : List (ByteArray × List ByteArray)) (M k n : Nat) (A : Prop) : Prop where
  ok : DOk D
  al : D.dead = false
  two : D.l.length = 2
  ar : D.armed ≠ 0 → A
  lc : LC D.l (M + k) 0 L snap ps kk
  ml : may.length ≤ n
  mp : ∀ x ∈ may, x.2.length ≤ 1048576
  cov : ∀ j, kk ≤ j → j ≤ ps.length → (snap, ps.take j) ∈ may
/-- Where the inner loop is left. -/
structure LvO (D : Dk) (may : List (ByteArray × List ByteArray)) (M m : Nat) : Prop where
  ok : DOk D
  two : D.l.length = 2
  ml : may.length ≤ 1 + 2 * m
  mp : ∀ x ∈ may, x.2.length ≤ 1048576
  res : (D.dead = false ∧ ∃ L snap ps kk, LC D.l (M + m) 0 L snap ps kk ∧ ∀ j, kk ≤ j → j ≤ ps.length → (snap, ps.take j) ∈ may) ∨ (D.dead = true ∧ ∃ s q, (s, q) ∈ may ∧ Rest D.l (M + m) 0 s q)
section
variable {D D' : Dk} {L L' : Lg} {snap : ByteArray} {ps : List ByteArray} {kk M k n m n' : Nat} {may : List (ByteArray × List ByteArray)} {A A' : Prop}
theorem LvP.few (h : LvP D L snap ps kk may M k n A) : ps.length ≤ 1048575 := by have := h.lc.few h.ok.size; omega
theorem LvP.many (h : LvP D L snap ps kk may M k n A) : Many D := h.lc.many2 h.two h.ok
theorem LvP.mono (h : LvP D L snap ps kk may M k n A) (hk : k ≤ m) (hn : n ≤ n') (ha : A → A') : LvP D L snap ps kk may M m n' A' :=
  ⟨h.ok, h.al, h.two, fun e => ha (h.ar e), h.lc.mono (by omega), by have := h.ml; omega, h.mp, h.cov⟩
theorem LvP.out (h : LvP D L snap ps kk may M k n A) (hk : k ≤ m) (hn : n ≤ 1 + 2 * m) : LvO D may M m :=
  ⟨h.ok, h.two, by have := h.ml; omega, h.mp, .inl ⟨h.al, L, snap, ps, kk, h.lc.mono (by omega), h.cov⟩⟩
theorem LvP.armed (h : LvP D L snap ps kk may M k n A) (x : Nat) (css : List (List Int)) (ha : A') (hn : x ≤ 9223372036854775807) (hc : ∀ i, (css.getD i []).length ≤ 140737488355328) : LvP ⟨D.l, x, css, D.dead⟩ L snap ps kk may M k n A' :=
  ⟨⟨h.ok.n, h.ok.pos, h.ok.size, h.ok.many, hn, hc⟩, h.al, h.two, fun _ => ha, h.lc, h.ml, h.mp, h.cov⟩
/-- An append came to pass: the state goes among those that may be. -/
theorem LvP.app (h : LvP D L snap ps kk may M k n A) (s : ByteArray) (ha : Alive D D' 0) (hl : LC D'.l (M + k) 0 L' snap (ps ++ [s]) kk) : LvP D' L' snap (ps ++ [s]) kk (may ++ [(snap, ps ++ [s])]) M k (n + 1) A := by
  have hf := hl.few ha.ok.size
  have hk := h.lc.cnt.kl
  rw [List.length_append, List.length_singleton] at hf
  refine ⟨ha.ok, ha.al, ha.len.trans h.two, fun e => h.ar (fun e0 => e (ha.ar e0)), hl, by have := h.ml; rw [List.length_append, List.length_singleton]; omega, fun x hx => ?_, fun j j1 j2 => ?_⟩
  · rcases List.mem_append.1 hx with hx | hx
    · exact h.mp x hx
    · rw [List.mem_singleton.1 hx, List.length_append, List.length_singleton]; omega
  · rw [List.length_append, List.length_singleton] at j2
    by_cases hj : j ≤ ps.length
    · rw [List.take_append_of_le_length hj]; exact List.mem_append_left _ (h.cov j j1 hj)
    · have e : j = ps.length + 1 := by omega
      rw [e, List.take_of_length_le (by rw [List.length_append, List.length_singleton]; omega)]
      exact List.mem_append_right _ (List.mem_singleton.2 rfl)
/-- The power went in an append. -/
theorem LvP.appGone (h : LvP D L snap ps kk may M k n A) (s : ByteArray) (hg : GoneD D D' 0) (hr : ∃ j, kk ≤ j ∧ j ≤ ps.length + 1 ∧ Rest D'.l (M + k) 0 snap ((ps ++ [s]).take j)) (hkm : k ≤ m) (hn : n + 1 ≤ 1 + 2 * m) : LvO D' (may ++ [(snap, ps ++ [s])]) M m ∧ A := by
  obtain ⟨j, j1, j2, j3⟩ := hr
  have hf := h.few
  refine ⟨⟨hg.ok, hg.len.trans h.two, by have := h.ml; rw [List.length_append, List.length_singleton]; omega, fun x hx => ?_, .inr ⟨hg.dd, snap, (ps ++ [s]).take j, ?_, j3.mono (by omega)⟩⟩, h.ar hg.ar⟩
  · rcases List.mem_append.1 hx with hx | hx
    · exact h.mp x hx
    · rw [List.mem_singleton.1 hx, List.length_append, List.length_singleton]; omega
  · by_cases hj : j ≤ ps.length
    · rw [List.take_append_of_le_length hj]; exact List.mem_append_left _ (h.cov j j1 hj)
    · have e : j = ps.length + 1 := by omega
      rw [e, List.take_of_length_le (by rw [List.length_append, List.length_singleton]; omega)]
      exact List.mem_append_right _ (List.mem_singleton.2 rfl)
/-- A sync came to pass: nothing else may be. -/
theorem LvP.syn (h : LvP D L snap ps kk may M k n A) (ha : Alive D D' 0) (hl : LC D'.l (M + k) 0 L' snap ps ps.length) : LvP D' L' snap ps ps.length [(snap, ps)] M k 1 A := by
  have hf := h.few
  refine ⟨ha.ok, ha.al, ha.len.trans h.two, fun e => h.ar (fun e0 => e (ha.ar e0)), hl, Nat.le_refl _, fun x hx => ?_, fun j j1 j2 => ?_⟩
  · rw [List.mem_singleton.1 hx]; exact Nat.le_trans hf (by decide)
  · rw [List.take_of_length_le j1]; exact List.mem_singleton.2 rfl
theorem LvP.synGone (h : LvP D L snap ps kk may M k n A) (hg : GoneD D D' 0) (hr : ∃ j, kk ≤ j ∧ j ≤ ps.length ∧ Rest D'.l (M + k) 0 snap (ps.take j)) (hkm : k ≤ m) (hn : n ≤ 1 + 2 * m) : LvO D' may M m ∧ A := by
  obtain ⟨j, j1, j2, j3⟩ := hr
  exact ⟨⟨hg.ok, hg.len.trans h.two, by have := h.ml; omega, h.mp, .inr ⟨hg.dd, snap, ps.take j, h.cov j j1 j2, j3.mono (by omega)⟩⟩, h.ar hg.ar⟩
/-- A checkpoint came to pass. -/
theorem LvP.cp (h : LvP D L snap ps kk may M k n A) (s : ByteArray) (ha : Alive D D' 0) (hl : LC D'.l (M + k + 1) 0 L' s [] 0) : LvP D' L' s [] 0 [(s, [])] M (k + 1) 1 A := by
  refine ⟨ha.ok, ha.al, ha.len.trans h.two, fun e => h.ar (fun e0 => e (ha.ar e0)), hl.mono (by omega), Nat.le_refl _, fun x hx => ?_, fun j j1 j2 => ?_⟩
  · rw [List.mem_singleton.1 hx]; exact Nat.zero_le _
  · rw [List.take_nil]; exact List.mem_singleton.2 rfl
theorem LvP.cpGone (h : LvP D L snap ps kk may M k n A) (s : ByteArray) (hg : GoneD D D' 0) (hr : Rest D'.l (M + k + 1) 0 s [] ∨ ∃ j, kk ≤ j ∧ j ≤ ps.length ∧ Rest D'.l (M + k + 1) 0 snap (ps.take j)) (hkm : k + 1 ≤ m) (hn : n + 1 ≤ 1 + 2 * m) : LvO D' (may ++ [(s, [])]) M m ∧ A := by
  refine ⟨⟨hg.ok, hg.len.trans h.two, by have := h.ml; rw [List.length_append, List.length_singleton]; omega, fun x hx => ?_, .inr ⟨hg.dd, ?_⟩⟩, h.ar hg.ar⟩
  · rcases List.mem_append.1 hx with hx | hx
    · exact h.mp x hx
    · rw [List.mem_singleton.1 hx]; exact Nat.zero_le _
  · rcases hr with hr | ⟨j, j1, j2, j3⟩
    · exact ⟨s, [], List.mem_append_right _ (List.mem_singleton.2 rfl), hr.mono (by omega)⟩
    · exact ⟨snap, ps.take j, List.mem_append_left _ (h.cov j j1 j2), j3.mono (by omega)⟩
end
/-- Blocks that turn in a life. -/
def SL (lb b g nb B1 : Nat) : Nat → Prop := fun k => k = lb ∨ k = b ∨ k = g ∨ k = nb ∨ B1 ≤ k
/-- The places of a life. -/
structure LvK (W W1 : World) (b g lb nb xb B1 : Nat) : Prop where
  lb1 : lb < B1
  b1 : b < B1
  g1 : g < B1
  nb1 : nb < B1
  xb1 : xb < B1
  nlb : nb ≠ lb
  nbb : nb ≠ b
  nbg : nb ≠ g
  xlb : xb ≠ lb
  xb' : xb ≠ b
  xg : xb ≠ g
  xn : xb ≠ nb
  nB : W.heap.size ≤ nb
  le : B1 ≤ W1.heap.size
structure LvM (W W1 : World) (b g cap lb nb B1 : Nat) (D : Dk) (L : Lg) (snap : ByteArray) (ps : List ByteArray) (vm : Value) (may : List (ByteArray × List ByteArray)) (w : World) : Prop where
  at_ : LAt W.heap.size W b g cap lb D L w
  now : NowAt w nb snap ps
  may : MayV w B1 vm may
  chg : Chg (SL lb b g nb B1) W1 w
section
variable {W W1 w w' : World} {b g cap lb nb xb B1 : Nat} {D D' : Dk} {L L' : Lg} {snap snap' : ByteArray} {ps ps' : List ByteArray} {vm : Value} {may : List (ByteArray × List ByteArray)}
theorem LvM.size (h : LvM W W1 b g cap lb nb B1 D L snap ps vm may w) (K : LvK W W1 b g lb nb xb B1) : B1 ≤ w.heap.size := Nat.le_trans K.le h.chg.size
theorem LvM.x (h : LvM W W1 b g cap lb nb B1 D L snap ps vm may w) (K : LvK W W1 b g lb nb xb B1) {tv hv : Value} {sn : ByteArray} {N Ag : Int} {cv : Value} (hx : XAt W1 xb tv hv sn N Ag cv) : XAt w xb tv hv sn N Ag cv :=
  hx.keep h.chg (by unfold SL; have := K.xb1; have := K.xlb; have := K.xb'; have := K.xg; have := K.xn; omega)
/-- A call of the log, or of the disk. -/
theorem LvM.call (h : LvM W W1 b g cap lb nb B1 D L snap ps vm may w) (K : LvK W W1 b g lb nb xb B1) (ha : LAt W.heap.size W b g cap lb D' L' w') (hc : Chg (fun k => k = lb ∨ k = b ∨ k = g) w w') : LvM W W1 b g cap lb nb B1 D' L' snap ps vm may w' :=
  ⟨ha, h.now.keep hc h.at_.muts (by have := K.nlb; have := K.nbb; have := K.nbg; omega), h.may.keep hc h.at_.muts (fun k hk hs => by have := K.lb1; have := K.b1; have := K.g1; omega), h.chg.trans (hc.mono fun k _ hk => by unfold SL; omega)⟩
theorem LvM.below (h : LvM W W1 b g cap lb nb B1 D L snap ps vm may w) (K : LvK W W1 b g lb nb xb B1) (hb : Below w.heap.size w w') : LvM W W1 b g cap lb nb B1 D L snap ps vm may w' :=
  ⟨h.at_.grow hb, h.now.below hb, h.may.below hb, h.chg.trans (Chg.of_below _ hb)⟩
/-- A state was put behind others. -/
theorem LvM.more (h : LvM W W1 b g cap lb nb B1 D L snap ps vm may w) (K : LvK W W1 b g lb nb xb B1) {vm' : Value} {may' : List (ByteArray × List ByteArray)} (hm : MayV w' B1 vm' may') (hc : Chg (fun k => vm.ownBlock = some k) w w') (hmu : Muts (fun k => vm.ownBlock = some k) w) : LvM W W1 b g cap lb nb B1 D L snap ps vm' may' w' := by
  have hB := K.nB
  have hz := h.at_.on.below.size
  have hn : ∀ k, vm.ownBlock = some k → B1 ≤ k := fun k hk => (h.may.block hk).1
  refine ⟨h.at_.apart hmu hc (fun e => by have := hn _ e; have := K.lb1; omega) (fun e => by have := hn _ e; have := K.b1; omega) (fun e => by have := hn _ e; have := K.g1; omega) (h.at_.on.below.trans (hc.below hz (fun k hk hs => by have := hn k hs; have := K.nb1; omega))), h.now.keep hc hmu (fun e => by have := hn _ e; have := K.nb1; omega), hm, h.chg.trans (hc.mono fun k _ hk => by unfold SL; have := hn k hk; omega)⟩
/-- A new row of states. -/
theorem LvM.anew (h : LvM W W1 b g cap lb nb B1 D L snap ps vm may w) (K : LvK W W1 b g lb nb xb B1) (hb : Below w.heap.size w w') {vm' : Value} {may' : List (ByteArray × List ByteArray)} (hm : MayV w' B1 vm' may') : LvM W W1 b g cap lb nb B1 D L snap ps vm' may' w' :=
  ⟨h.at_.grow hb, h.now.below hb, hm, h.chg.trans (Chg.of_below _ hb)⟩
/-- The state at hand is another one. -/
theorem LvM.set (h : LvM W W1 b g cap lb nb B1 D L snap ps vm may w) (K : LvK W W1 b g lb nb xb B1) (v : Value) (hv : WS w v ps') : LvM W W1 b g cap lb nb B1 D L snap' ps' vm may ((w.setCell ⟨nb, 0, none⟩ (.string snap')).setCell ⟨nb, 1, none⟩ v) := by
  obtain ⟨nv, hn, _⟩ := h.now
  have h1 := setCell_blk w nb 0 (.string snap') hn
  have h2 := setCell_blk _ nb 1 v h1
  have hm : Muts (fun k => k = nb) w := by
    intro k _ hk cur T fr hh
    subst hk
    rw [hn] at hh
    injection hh with hh
    injection hh with _ hT _
    subst hT
    unfold Fix
    decide
  have hm2 : Muts (fun k => k = nb) (w.setCell ⟨nb, 0, none⟩ (.string snap')) := by
    intro k _ hk cur T fr hh
    subst hk
    rw [h1] at hh
    injection hh with hh
    injection hh with _ hT _
    subst hT
    unfold Fix
    decide
  have c1 : Chg (fun k => k = nb) w (w.setCell ⟨nb, 0, none⟩ (.string snap')) := Chg.setCell (fun k => k = nb) w (j := 0) rfl _
  have c2 : Chg (fun k => k = nb) (w.setCell ⟨nb, 0, none⟩ (.string snap')) ((w.setCell ⟨nb, 0, none⟩ (.string snap')).setCell ⟨nb, 1, none⟩ v) := Chg.setCell (fun k => k = nb) _ (j := 1) rfl _
  have hB := K.nB
  have hz := h.at_.on.below.size
  refine ⟨h.at_.apart hm (c1.trans c2) (fun e => K.nlb e.symm) (fun e => K.nbb e.symm) (fun e => K.nbg e.symm) (h.at_.on.below.trans ((c1.trans c2).below hz (fun k hk hs => by omega))), ⟨v, h2, (hv.keep c1 hm).keep c2 hm2⟩, (h.may.keep c1 hm (fun k hk e => by have := K.nb1; omega)).keep c2 hm2 (fun k hk e => by have := K.nb1; omega), h.chg.trans ((c1.trans c2).mono fun k _ hk => by unfold SL; omega)⟩
end
end Go.Proofs.YtilpbjcbffbjeaaDoor
