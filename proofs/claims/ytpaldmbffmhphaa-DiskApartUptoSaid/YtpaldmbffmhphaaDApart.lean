/- The walk of DiskApart. -/
import Derived.Test.YtpaldmbffmhphaaDLeaves
import Derived.Deep.Slices
namespace Go.Proofs.Ytpaldmbffmhphaa
open Go.RowKit
/-- The cells of calls, each with the value of its choices. -/
def ocells (its : List (Opv × Value)) : List Value := its.flatMap fun x => [.int .i64 x.1.on, .int .i64 x.1.kind, .int .i64 x.1.f, .int .i64 x.1.n, .string x.1.s, x.2]
theorem length_ocells (its : List (Opv × Value)) : (ocells its).length = its.length * 6 := by
  induction its with
  | nil => rfl
  | cons x its ih => unfold ocells at *; rw [List.flatMap_cons, List.length_append, ih]; simp only [List.length_cons, List.length_nil]; omega
theorem ocells_snoc (its : List (Opv × Value)) (x : Opv × Value) : ocells (its ++ [x]) = ocells its ++ [.int .i64 x.1.on, .int .i64 x.1.kind, .int .i64 x.1.f, .int .i64 x.1.n, .string x.1.s, x.2] := by unfold ocells; rw [List.flatMap_append]; rfl
theorem ocells_get (its : List (Opv × Value)) (i : Nat) (h : i < its.length) (d : Opv × Value) (j : Nat) (hj : j < 6) : (ocells its)[i * 6 + j]? = [Value.int .i64 (its.getD i d).1.on, .int .i64 (its.getD i d).1.kind, .int .i64 (its.getD i d).1.f, .int .i64 (its.getD i d).1.n, .string (its.getD i d).1.s, (its.getD i d).2][j]? := by
  induction its generalizing i with
  | nil => simp at h
  | cons x its ih =>
    have e : ocells (x :: its) = [.int .i64 x.1.on, .int .i64 x.1.kind, .int .i64 x.1.f, .int .i64 x.1.n, .string x.1.s, x.2] ++ ocells its := rfl
    rw [e]
    cases i with
    | zero => rw [Nat.zero_mul, Nat.zero_add, List.getElem?_append_left (by simp; omega)]; rfl
    | succ i =>
      rw [List.getElem?_append_right (by simp only [List.length_cons, List.length_nil]; omega)]
      simp only [List.length_cons, List.length_nil]
      rw [show (i + 1) * 6 + j - (0 + 1 + 1 + 1 + 1 + 1 + 1) = i * 6 + j by omega]
      exact ih i (by simpa using h)
def OwnsO (w : World) (base : Nat) (v : Value) (its : List (Opv × Value)) : Prop := w.ownsRow base 43 6 v its.length (ocells its)
theorem OwnsO.block {w : World} {base : Nat} {v : Value} {its : List (Opv × Value)} (h : OwnsO w base v its) {k : Nat} (hk : v.ownBlock = some k) : base ≤ k ∧ k < w.heap.size := World.ownsRow.lt h k hk
theorem OwnsO.form {w : World} {base : Nat} {v : Value} {its : List (Opv × Value)} (h : OwnsO w base v its) : ∃ p cap, v = .slice p its.length cap := by
  rcases h.2 with ⟨hv, hn⟩ | ⟨g, cap, cur, hv, _⟩
  · exact ⟨none, 0, by rw [hv, hn]⟩
  · exact ⟨_, cap, hv⟩
theorem OwnsO.ops {w : World} {base : Nat} {v : Value} {its : List (Opv × Value)} (h : OwnsO w base v its) (hr : ∀ x ∈ its, Rss w x.2 x.1.ch) : Ops w v (its.map (·.1)) := by
  rcases h.2 with ⟨hv, hn⟩ | ⟨g, cap, cur, hv, hb, hg, h3, h4, h5, h6⟩
  · have : its = [] := List.eq_nil_of_length_eq_zero hn
    subst this
    exact ⟨none, 0, hv, fun i hi => absurd hi (Nat.not_lt_zero _)⟩
  · subst hv
    have hc := fun j hj => World.ownsRow.cellAt (w := w) (base := base) (e := 43) (size := 6) (g := g) (cap := cap) (n := its.length) (xs := ocells its) h j hj
    refine ⟨_, cap, by rw [List.length_map], fun i hi => ?_⟩
    rw [List.length_map] at hi
    refine ⟨g, 0, rfl, ?_⟩
    have hgd : (its.map (·.1)).getD i Opv.zero = (its.getD i (Opv.zero, undef)).1 := by
      rw [List.getD_eq_getElem?_getD, List.getElem?_map, List.getElem?_eq_getElem hi, List.getD_eq_getElem?_getD, List.getElem?_eq_getElem hi]; rfl
    rw [hgd, Nat.zero_add]
    have hmem : its.getD i (Opv.zero, undef) ∈ its := by rw [List.getD_eq_getElem?_getD, List.getElem?_eq_getElem hi]; exact List.getElem_mem _
    have k := fun j (hj : j < 6) => (hc (i * 6 + j) (by omega)).trans (ocells_get its i hi (Opv.zero, undef) j hj)
    exact ⟨k 0 (by omega), k 1 (by omega), k 2 (by omega), k 3 (by omega), k 4 (by omega), _, k 5 (by omega), hr _ hmem⟩
theorem OwnsO.keep {w w' : World} {base : Nat} {v : Value} {its : List (Opv × Value)} (h : OwnsO w base v its) (hb : Below w.heap.size w w') : OwnsO w' base v its :=
  World.ownsRow.kept (row := none) h ⟨hb.os, hb.tape, hb.output, hb.size, fun k hk _ => hb.block k hk⟩ (by cases v.ownBlock <;> simp)
/-- The calls up to i that are for a file. -/
def its (os : List Opv) (CV : Nat → Value) (one : Nat) (i : Nat) : List (Opv × Value) := ((List.range i).filter fun j => decide ((os.getD j Opv.zero).f = (one : Int))).map fun j => (os.getD j Opv.zero, CV j)
theorem its_succ (os : List Opv) (CV : Nat → Value) (one i : Nat) : its os CV one (i + 1) = its os CV one i ++ (if (os.getD i Opv.zero).f = (one : Int) then [(os.getD i Opv.zero, CV i)] else []) := by
  unfold its
  rw [List.range_succ, List.filter_append, List.map_append]
  congr 1
  by_cases h : (os.getD i Opv.zero).f = (one : Int)
  · rw [List.filter_cons, decide_eq_true h, if_pos rfl, if_pos h]; rfl
  · rw [List.filter_cons, decide_eq_false h, if_neg (by decide), if_neg h]; rfl
theorem length_its (os : List Opv) (CV : Nat → Value) (one i : Nat) : (its os CV one i).length ≤ i := by
  unfold its
  rw [List.length_map]
  exact Nat.le_trans (List.length_filter_le _ _) (by rw [List.length_range]; exact Nat.le_refl _)
theorem its_all (os : List Opv) (CV : Nat → Value) (one : Nat) : (its os CV one os.length).map (·.1) = os.filter fun o => decide (o.f = (one : Int)) := by
  have e : os = (List.range os.length).map fun j => os.getD j Opv.zero := by
    refine List.ext_getElem (by rw [List.length_map, List.length_range]) fun i h1 h2 => ?_
    rw [List.getElem_map, List.getElem_range, List.getD_eq_getElem?_getD, List.getElem?_eq_getElem h1]; rfl
  unfold its
  rw [List.map_map]
  conv => rhs; rw [e, List.filter_map]
  rfl
theorem its_mem {os : List Opv} {CV : Nat → Value} {one i : Nat} {x : Opv × Value} (h : x ∈ its os CV one i) : ∃ j, j < i ∧ x = (os.getD j Opv.zero, CV j) := by
  obtain ⟨j, hj, rfl⟩ := List.mem_map.1 h
  exact ⟨j, List.mem_range.1 (List.mem_filter.1 hj).1, rfl⟩
/-- Slices of ints in a slice of the law's own. -/
def OwnsI (w : World) (base : Nat) (v : Value) (us : List Value) : Prop := w.ownsRow base 44 1 v us.length us
theorem OwnsI.block {w : World} {base : Nat} {v : Value} {us : List Value} (h : OwnsI w base v us) {k : Nat} (hk : v.ownBlock = some k) : base ≤ k ∧ k < w.heap.size := World.ownsRow.lt h k hk
theorem OwnsI.form {w : World} {base : Nat} {v : Value} {us : List Value} (h : OwnsI w base v us) : ∃ p cap, v = .slice p us.length cap := by
  rcases h.2 with ⟨hv, hn⟩ | ⟨g, cap, cur, hv, _⟩
  · exact ⟨none, 0, by rw [hv, hn]⟩
  · exact ⟨_, cap, hv⟩
theorem OwnsI.rss {w : World} {base : Nat} {v : Value} {us : List Value} {css : List (List Int)} (h : OwnsI w base v us) (hl : us.length = css.length) (hr : ∀ i, i < us.length → Ints w (us.getD i undef) (css.getD i [])) : Rss w v css := by
  rcases h.2 with ⟨hv, hn⟩ | ⟨g, cap, cur, hv, hb, hg, h3, h4, h5, h6⟩
  · have : css = [] := List.eq_nil_of_length_eq_zero (by omega)
    subst this
    exact hv ▸ Rss.nil w
  · subst hv
    refine ⟨_, cap, by rw [hl], fun i hi => ?_⟩
    rw [← hl] at hi
    refine ⟨g, 0, us.getD i undef, rfl, ?_, hr i hi⟩
    rw [Nat.zero_add, World.ownsRow.cellAt (w := w) (base := base) (e := 44) (size := 1) (g := g) (cap := cap) (n := us.length) (xs := us) h i (by omega), List.getD_eq_getElem?_getD, List.getElem?_eq_getElem hi]
    rfl
theorem rss_at {w : World} {p : Option Addr} {n c : Nat} {css : List (List Int)} (h : Rss w (.slice p n c) css) (i : Nat) (hi : i < css.length) : ∃ b off u, p = some ⟨b, off, none⟩ ∧ w.cell? ⟨b, off + i, none⟩ = some u ∧ Ints w u (css.getD i []) := by
  obtain ⟨q, d, e, hc⟩ := h
  injection e with e1 e2 e3
  subst e1
  exact hc i hi
theorem wpList_append_o {ops : Array Oper} {rest : List Oper} {o : Oper} {a : Act} {w : World} {Q : Exit → Act → World → Prop} {base : Nat} {v : Value} {its : List (Opv × Value)}
    (hgd : o.guard = none) (s x : Operand) (ho : o.op = .call { callee := .builtin .append, args := #[s, x], argTypes := #[23, 23] })
    (hs : a.eval s = v) (hown : OwnsO w base v its) (g c : Nat) (new : Opv × Value) (hx : a.eval x = .slice (some ⟨g, 0, none⟩) 1 c)
    (hnew : ∀ j u, [Value.int .i64 new.1.on, .int .i64 new.1.kind, .int .i64 new.1.f, .int .i64 new.1.n, .string new.1.s, new.2][j]? = some u → w.cell? ((⟨g, 0, none⟩ : Addr).add j) = some u) (h1 : new.2.oneCell' = true) (hsz : its.length ≤ 1048576) (hbase : base ≤ w.heap.size)
    (h : ∀ v' w', OwnsO w' base v' (its ++ [new]) → w.grownBy w' v.ownBlock → wpList Try.prog ops Q rest (a.put o.dst v') w') : wpList Try.prog ops Q (o :: rest) a w := by
  obtain ⟨i0, hi0, hz0, hz1, hz2⟩ := info_parts infoOp
  refine wpList_append_own_at w hgd s x 23 ho base 43 i0 (.agg #[.int .i64 0, .int .i64 0, .int .i64 0, .int .i64 0, .string ⟨#[]⟩, .slice none 0 0]) 6 72 Try.underlying23 hi0 hz0 hz1 hz2 rfl (by decide) v its.length (ocells its) hs hown ⟨g, 0, none⟩ 1 c _ hx rfl hnew ?_ (by unfold maxLen; omega) (by omega) hbase ?_
  · intro u hu
    simp only [List.mem_cons, List.not_mem_nil, or_false] at hu
    rcases hu with rfl | rfl | rfl | rfl | rfl | rfl
    · rfl
    · rfl
    · rfl
    · rfl
    · rfl
    · exact h1
  · intro v' w' h3 h2 _ _
    refine h v' w' ?_ h2
    unfold OwnsO
    rw [List.length_append, ocells_snoc]
    exact h3
theorem wpList_append_i {ops : Array Oper} {rest : List Oper} {o : Oper} {a : Act} {w : World} {Q : Exit → Act → World → Prop} {base : Nat} {v : Value} {us : List Value}
    (hgd : o.guard = none) (s x : Operand) (ho : o.op = .call { callee := .builtin .append, args := #[s, x], argTypes := #[24, 24] })
    (hs : a.eval s = v) (hown : OwnsI w base v us) (g c : Nat) (new : Value) (hx : a.eval x = .slice (some ⟨g, 0, none⟩) 1 c)
    (hnew : w.cell? ⟨g, 0, none⟩ = some new) (h1 : new.oneCell' = true) (hsz : us.length ≤ 1048576) (hbase : base ≤ w.heap.size)
    (h : ∀ v' w', OwnsI w' base v' (us ++ [new]) → w.grownBy w' v.ownBlock → wpList Try.prog ops Q rest (a.put o.dst v') w') : wpList Try.prog ops Q (o :: rest) a w := by
  obtain ⟨i0, hi0, hz0, hz1, hz2⟩ := info_parts infoInts
  refine wpList_append_own_at w hgd s x 24 ho base 44 i0 (.slice none 0 0) 1 24 Try.underlying24 hi0 hz0 hz1 hz2 rfl (by decide) v us.length us hs (by unfold OwnsI at hown; exact hown) ⟨g, 0, none⟩ 1 c [new] hx rfl ?_ (by simpa using h1) (by unfold maxLen; omega) (by omega) hbase ?_
  · intro j u hu
    have hj : j = 0 := by have := (List.getElem?_eq_some_iff.1 hu).1; simp at this; exact this
    subst hj
    rw [show u = new by simpa using hu.symm]
    exact hnew
  · intro v' w' h3 h2 _ _
    refine h v' w' ?_ h2
    unfold OwnsI
    rw [List.length_append]
    exact h3
/-- What the law lays as the other choices. -/
def mix (A B : List (List Int)) (one : Nat) (j : Nat) : List Int := if j = one then A.getD j [] else B.getD j []
set_option maxRecDepth 100000 in
set_option maxHeartbeats 3200000 in
theorem apartLaw {w : World} (v u : Value) (ss : List ByteArray) (os : List Opv) (h : Strs w v ss) (hl : ss.length ≤ 1048576) (hm : ∀ i, i < ss.length → (ss.getD i ⟨#[]⟩).size ≤ 1048576)
    (ho : Ops w u os) (hol : os.length ≤ 1048576) (hom : ∀ i, i < os.length → (os.getD i Opv.zero).s.size ≤ 1048576) (file : Int) (va vb : Value) (A B : List (List Int)) (hA : Rss w va A) (hB : Rss w vb B) (hAc : A.length ≤ 1048576) (hBc : B.length ≤ 1048576) (hAl : ∀ i, (A.getD i []).length ≤ 1048576) (hBl : ∀ i, (B.getD i []).length ≤ 1048576) :
    Calls Try.prog 4 #[v, u, .agg #[.int .i64 file, va, vb]] w fun e w' => e = .returned (.bool true) ∧ Below w.heap.size w w' := by
  obtain ⟨vp, vc, hve, _⟩ := h.form
  have ho1 := ho
  have hA1 := hA
  have hB1 := hB
  obtain ⟨up, uc, hue, _⟩ := ho1
  obtain ⟨ap, ac, hae, _⟩ := hA1
  obtain ⟨bp, bc, hbe, _⟩ := hB1
  obtain ⟨W, hW⟩ : ∃ W, W = w.alloc (.cells #[.int .i64 file, va, vb] 26) := ⟨_, rfl⟩
  have hbW : Below w.heap.size w W := by rw [hW]; exact (Below.refl _ _).alloc (Nat.le_refl _) _
  have HMADE := Lib.hid (madeW v u ss os (h.below hbW) hl hm (ho.below hbW) hol hom)
  have HSTR := Lib.hid (h.below hbW)
  have HOPS := Lib.hid (ho.below hbW)
  have HAS := Lib.hid (hA.below hbW)
  have HBS := Lib.hid (hB.below hbW)
  have HBW := Lib.hid hbW
  have hsz : W.heap.size = w.heap.size + 1 := by rw [hW]; simp
  have d0 : W.cell? ⟨w.heap.size, 0, none⟩ = some (.int .i64 file) := by rw [hW]; simp
  have d1 : W.cell? ⟨w.heap.size, 1, none⟩ = some va := by rw [hW]; simp
  have d2 : W.cell? ⟨w.heap.size, 2, none⟩ = some vb := by rw [hW]; simp
  have HHM := Lib.hid hm
  have HHL := Lib.hid hl
  obtain ⟨bb, hbb⟩ : ∃ bb, bb = w.heap.size := ⟨_, rfl⟩
  have HW := Lib.hid hW
  have HAL := Lib.hid hAl
  have HBL := Lib.hid hBl
  have HOL := Lib.hid hol
  have HOM := Lib.hid hom
  rw [← hbb] at d0 d1 d2 hsz
  subst hve hue hae hbe
  obtain ⟨an, han⟩ : ∃ n, n = A.length := ⟨_, rfl⟩
  obtain ⟨bn, hbn⟩ : ∃ n, n = B.length := ⟨_, rfl⟩
  obtain ⟨m, hmm⟩ : ∃ m, m = ss.length := ⟨_, rfl⟩
  obtain ⟨on, hon⟩ : ∃ n, n = os.length := ⟨_, rfl⟩
  rw [← han] at d1 HAS
  rw [← hbn] at d2 HBS
  have HD := Lib.hid (And.intro d0 (And.intro d1 d2))
  rw [← hmm, ← hon] at HMADE
  rw [← hmm] at HSTR
  rw [← hon] at HOPS
  rw [← han, ← hbn] at HW
  rw [← han, ← hbn, ← hmm, ← hon]
  have HMM := Lib.hid hmm
  have HON := Lib.hid hon
  have HAN := Lib.hid han
  have HBN := Lib.hid hbn
  have HBB := Lib.hid hbb
  clear h ho hA hB hbW hW hm hl hol hom hAl hBl han hbn hmm hon hbb d0 d1 d2
  go_enter Try.func4, Try.ntmps4
  go_wp2_with fail
  rw [← HBB.out, ← HW.out]
  refine HMADE.out.mono ?_
  rintro e w1 ⟨hb1, hh⟩
  rcases hh with ⟨hne, rfl⟩ | ⟨he0, b, g, cap, rfl, hat⟩
  · have h0 : (newErr ss == 0) = false := by rw [beq_eq_false_iff_ne]; exact hne
    have HNE := Lib.hid hne
    have HS1 := Lib.hid (HSTR.out.below hb1)
    have HB1 := Lib.hid hb1
    clear hne hb1
    go_wp2_with fail
    refine (rnewW _ ss HS1.out HHL.out HHM.out).mono ?_
    rintro e w2 ⟨hb2, hh⟩
    rcases hh with ⟨_, rfl⟩ | ⟨hx, _⟩
    · have HB2 := Lib.hid hb2
      clear hb2
      go_wp2_with fail
      refine (fixedW w2).mono ?_
      rintro e w3 ⟨rfl, hb3⟩
      have HB3 := Lib.hid hb3
      clear hb3
      go_wp2_with fail
      go_ret
      refine ⟨?_, ((HBW.out.trans (HB1.out.mono HBW.out.size)).trans (HB2.out.mono (Nat.le_trans HBW.out.size HB1.out.size))).trans (HB3.out.mono (Nat.le_trans (Nat.le_trans HBW.out.size HB1.out.size) HB2.out.size))⟩
      show Ending.returned (.bool (newErr ss != 0)) = _
      rw [bne, beq_eq_false_iff_ne.2 HNE.out]
      rfl
    · exact absurd hx HNE.out
  · obtain ⟨hm1, hm2, _⟩ := newErr_good he0
    rw [← HMM.out] at hm1 hm2
    have HIN := Lib.hid (mk_inv he0 os)
    have hlen := length_mk ss os
    rw [← HMM.out] at hlen
    obtain ⟨one, hone, honem⟩ := place_nat file m hm1
    have hn0 : os.length ≤ 1048576 := HOL.out
    have OK0 := Lib.hid (HIN.out.ok (by omega))
    have e0 : w1.cell? ⟨bb, 0, none⟩ = some (.int .i64 file) := (hat.below.cell (block_lt_of_cell HD.out.1)).trans HD.out.1
    have HPL := Lib.hid (placeW file m hm1 (by omega) w1)
    rw [hone] at HPL
    have HA := Lib.hid hat
    have HLEN := Lib.hid hlen
    have HE := Lib.hid he0
    clear hat he0 hlen hone
    go_wp2_with fail
    refine HPL.out.mono ?_
    rintro e w2 ⟨rfl, rfl⟩
    clear HPL e0
    have hCV : ∃ CV : Nat → Value, ∀ j, j < on → ∃ ob oo, up = some ⟨ob, oo, none⟩ ∧ W.cell? ⟨ob, oo + j * 6, none⟩ = some (.int .i64 (os.getD j Opv.zero).on) ∧ W.cell? ⟨ob, oo + j * 6 + 1, none⟩ = some (.int .i64 (os.getD j Opv.zero).kind) ∧
        W.cell? ⟨ob, oo + j * 6 + 2, none⟩ = some (.int .i64 (os.getD j Opv.zero).f) ∧ W.cell? ⟨ob, oo + j * 6 + 3, none⟩ = some (.int .i64 (os.getD j Opv.zero).n) ∧ W.cell? ⟨ob, oo + j * 6 + 4, none⟩ = some (.string (os.getD j Opv.zero).s) ∧
        W.cell? ⟨ob, oo + j * 6 + 5, none⟩ = some (CV j) ∧ Rss W (CV j) (os.getD j Opv.zero).ch := by
      obtain ⟨q, qc, hq, hcell⟩ := HOPS.out
      injection hq with hq1 hq2 hq3
      subst hq1
      have each : ∀ j, j < on → ∃ cv, ∃ ob oo, up = some ⟨ob, oo, none⟩ ∧ W.cell? ⟨ob, oo + j * 6, none⟩ = some (.int .i64 (os.getD j Opv.zero).on) ∧ W.cell? ⟨ob, oo + j * 6 + 1, none⟩ = some (.int .i64 (os.getD j Opv.zero).kind) ∧
        W.cell? ⟨ob, oo + j * 6 + 2, none⟩ = some (.int .i64 (os.getD j Opv.zero).f) ∧ W.cell? ⟨ob, oo + j * 6 + 3, none⟩ = some (.int .i64 (os.getD j Opv.zero).n) ∧ W.cell? ⟨ob, oo + j * 6 + 4, none⟩ = some (.string (os.getD j Opv.zero).s) ∧
        W.cell? ⟨ob, oo + j * 6 + 5, none⟩ = some cv ∧ Rss W cv (os.getD j Opv.zero).ch := fun j hj => by
        obtain ⟨ob, oo, hp, h0, h1, h2, h3, h4, cv, h5, h6⟩ := hcell j (by rw [← HON.out]; exact hj)
        exact ⟨cv, ob, oo, hp, h0, h1, h2, h3, h4, h5, h6⟩
      exact Go.Deep.choose_lt (α := Value) each
    obtain ⟨CV, hcv⟩ := hCV
    have HCV := Lib.hid hcv
    clear hcv
    go_wp2_with fail
    obtain ⟨gO, hgO⟩ : ∃ n, n = w1.heap.size := ⟨_, rfl⟩
    rw [← hgO]
    obtain ⟨W1, hW1⟩ : ∃ W1, W1 = w1.alloc (.cells #[] 43) := ⟨_, rfl⟩
    have hbW1 : Below gO w1 W1 := by rw [hW1, hgO]; exact (Below.refl _ _).alloc (Nat.le_refl _) _
    have hoW1 : OwnsO W1 gO (.slice (some ⟨gO, 0, none⟩) 0 0) (its os CV one 0) := ⟨rfl, .inr ⟨gO, 0, #[], rfl, Nat.le_refl _, by rw [hW1, hgO]; exact heap_alloc_new w1 _, Nat.le_refl _, Nat.zero_le _, rfl, rfl⟩⟩
    have hsW1 : gO + 1 ≤ W1.heap.size := by rw [hW1, hgO]; simp
    rw [← hW1]
    have HGO := Lib.hid hgO
    have H1 := Lib.hid (And.intro hbW1 (And.intro hoW1 hsW1))
    clear hgO hW1 hbW1 hoW1 hsW1
    go_loopw [11, 12] (fun vo vi wr => ∃ i : Nat, i ≤ on ∧ vi = .int .i64 (i : Nat) ∧ OwnsO wr gO vo (its os CV one i) ∧ Below gO w1 wr ∧ gO + 1 ≤ wr.heap.size) (fun _ vi _ => (on - intOf vi).toNat)
    case atStart => exact ⟨0, by omega, rfl, H1.out.2.1, H1.out.1, H1.out.2.2⟩
    case round =>
      obtain ⟨i, hi, rfl, ho, hbw, hsz2⟩ := hrel
      have HO := Lib.hid ho
      have HBWR := Lib.hid hbw
      have HAR := Lib.hid (HA.out.grow (w2 := wr) (by rw [← HGO.out]; exact hbw))
      clear ho hbw H1
      by_cases hlt : i < on
      · obtain ⟨ob, oo, rfl, c0, c1, c2, c3, c4, c5, hcv⟩ := HCV.out i hlt
        have k := fun (a : Addr) (v : Value) (hc : W.cell? a = some v) => (HAR.out.below.cell (block_lt_of_cell hc)).trans hc
        replace c0 := k _ _ c0
        replace c1 := k _ _ c1
        replace c2 := k _ _ c2
        replace c3 := k _ _ c3
        replace c4 := k _ _ c4
        replace c5 := k _ _ c5
        obtain ⟨qp, qc, hqe, _⟩ := hcv
        obtain ⟨qn, hqn⟩ : ∃ n, n = (os.getD i Opv.zero).ch.length := ⟨_, rfl⟩
        rw [← hqn] at hqe
        obtain ⟨o, hoo⟩ : ∃ o, o = os.getD i Opv.zero := ⟨_, rfl⟩
        rw [← hoo] at c0 c1 c2 c3 c4
        rw [hqe] at c5
        have HOO := Lib.hid hoo
        have HQE := Lib.hid hqe
        have i1 : (0 : Int) ≤ (i : Int) := by omega
        have i2 : (i : Int) < (on : Int) := by omega
        obtain ⟨op', oc, hve⟩ := HO.out.form
        subst hve
        obtain ⟨ln, hln⟩ : ∃ n, n = (its os CV one i).length := ⟨_, rfl⟩
        rw [← hln] at HO ⊢
        clear k hqn hoo hqe
        have hon1 : on ≤ 1048576 := by rw [HON.out]; exact HOL.out
        by_cases hf : o.f = (one : Int)
        · have ef : (o.f == (one : Int)) = true := by rw [beq_iff_eq]; exact hf
          have HF := Lib.hid hf
          clear hf
          go_wp2_with (at_builtin; refine wpList_append_o rfl _ _ rfl rfl (World.ownsRow.alloc HO.out _) wr.heap.size 1 (o, .slice qp qn qc) rfl ?d1 rfl ?d2 ?d3 ?_)
          case d2 => have := length_its os CV one i; omega
          case d3 => simp; omega
          intro v5 w5 ho5 hg5
          have hits : its os CV one (i + 1) = its os CV one i ++ [(o, .slice qp qn qc)] := by rw [its_succ, ← HOO.out, if_pos HF.out, HQE.out]
          rw [← hits] at ho5
          have hb5 : Below gO w1 w5 := (HBWR.out.alloc (by omega) _).grown hg5 (by simp; omega) (fun k hk => (OwnsO.block HO.out (k := k) (by rw [hln]; exact hk)).1)
          have hs5 : gO + 1 ≤ w5.heap.size := by have := hg5.size; simp at this; omega
          have R := Lib.hid (And.intro ho5 (And.intro hb5 hs5))
          clear ho5 hg5 hits hb5 hs5 HO c0 c1 c2 c3 c4 c5
          go_wp2_with fail
          exact ⟨⟨i + 1, by omega, rfl, R.out⟩, by simp [intOf]; omega⟩
        · have ef : (o.f == (one : Int)) = false := by rw [beq_eq_false_iff_ne]; exact hf
          have hits : its os CV one (i + 1) = its os CV one i := by rw [its_succ, ← HOO.out, if_neg hf, List.append_nil]
          have HITS := Lib.hid hits
          clear hf hits
          go_wp2_with fail
          exact ⟨⟨i + 1, by omega, rfl, by rw [HITS.out]; exact HO.out, HBWR.out, hsz2⟩, by simp [intOf]; omega⟩
      · have hie : i = on := by omega
        subst hie
        have hon1 : i ≤ 1048576 := by rw [HON.out]; exact HOL.out
        obtain ⟨op', oc, hve⟩ := HO.out.form
        subst hve
        obtain ⟨os', hos'⟩ : ∃ l, l = (its os CV one i).map (·.1) := ⟨_, rfl⟩
        have hlos : os'.length = (its os CV one i).length := by rw [hos', List.length_map]
        have hops : Ops wr (.slice op' (its os CV one i).length oc) os' := by
          rw [hos']
          refine HO.out.ops fun x hx => ?_
          obtain ⟨j, hj, rfl⟩ := its_mem hx
          obtain ⟨_, _, _, _, _, _, _, _, _, hr⟩ := HCV.out j hj
          exact hr.below HAR.out.below
        have hfil : os' = os.filter fun o => decide (o.f = (one : Int)) := by rw [hos', HON.out]; exact its_all os CV one
        have hom' : ∀ j, j < os'.length → (os'.getD j Opv.zero).s.size ≤ 1048576 := fun j hj => by
          have hj2 : j < (its os CV one i).length := by rw [← hlos]; exact hj
          obtain ⟨k, hk, hx⟩ := its_mem (List.getElem_mem hj2)
          have : os'.getD j Opv.zero = os.getD k Opv.zero := by
            rw [hos', List.getD_eq_getElem?_getD, List.getElem?_map, List.getElem?_eq_getElem hj2, hx]; rfl
          rw [this]
          exact HOM.out k (by rw [← HON.out]; exact hk)
        have hol' : os'.length ≤ 1048576 := by rw [hlos]; have := length_its os CV one i; omega
        have HMADE2 := Lib.hid (madeW _ _ ss os' (HSTR.out.below HAR.out.below) HHL.out HHM.out hops hol' hom')
        have HMK := Lib.hid (mk_own ss os one (fun o => decide (o.f = (one : Int))) (fun o => rfl))
        rw [← hfil] at HMK
        have HOL2 := Lib.hid hol'
        clear hos' hlos hops hfil hom' hol'
        go_wp2_with fail
        refine HMADE2.out.mono ?_
        rintro e w3 ⟨hb3, hh⟩
        rcases hh with ⟨hne, _⟩ | ⟨he2, b2, g2, cap2, rfl, hat2⟩
        · exact absurd HE.out hne
        have hw3 : W.heap.size ≤ wr.heap.size := HAR.out.below.size
        have HA3 := Lib.hid (HAR.out.grow hb3)
        have HC3 : Hid (At W.heap.size W b2 g2 cap2 (dk0 (mk ss os')) w3) := ⟨hat2.disk, HA3.out.below, by have := hat2.bB; omega, by have := hat2.gB; omega, Nat.le_refl _⟩
        have OKC := Lib.hid ((mk_inv he2 os').ok (by have := HOL2.out; omega))
        have hUV : ∃ UV : Nat → Value, ∀ j, j ≤ one → (∃ p n c, UV j = .slice p n c) ∧ (j = one → (j < an → ∃ bo off, ap = some ⟨bo, off, none⟩ ∧ W.cell? ⟨bo, off + j, none⟩ = some (UV j)) ∧ (¬ j < an → UV j = .slice none 0 0)) ∧
            (j ≠ one → (j < bn → ∃ bo off, bp = some ⟨bo, off, none⟩ ∧ W.cell? ⟨bo, off + j, none⟩ = some (UV j)) ∧ (¬ j < bn → UV j = .slice none 0 0)) ∧ Ints W (UV j) (mix A B one j) := by
          have each : ∀ j, j ≤ one → ∃ u : Value, (∃ p n c, u = .slice p n c) ∧ (j = one → (j < an → ∃ bo off, ap = some ⟨bo, off, none⟩ ∧ W.cell? ⟨bo, off + j, none⟩ = some u) ∧ (¬ j < an → u = .slice none 0 0)) ∧
            (j ≠ one → (j < bn → ∃ bo off, bp = some ⟨bo, off, none⟩ ∧ W.cell? ⟨bo, off + j, none⟩ = some u) ∧ (¬ j < bn → u = .slice none 0 0)) ∧ Ints W u (mix A B one j) := fun j _ => by
            have nil : ∀ (l : List (List Int)), ¬ j < l.length → Ints W (.slice none 0 0) (l.getD j []) := fun l hl => by
              rw [List.getD_eq_getElem?_getD, List.getElem?_eq_none (by omega)]; exact Ints.nil W
            by_cases h : j = one
            · by_cases h2 : j < an
              · obtain ⟨bo, off, u, h3, h4, h5⟩ := rss_at HAS.out j (by rw [← HAN.out]; exact h2)
                obtain ⟨q, qc, hq, _⟩ := h5.form
                exact ⟨u, ⟨q, _, qc, hq⟩, fun _ => ⟨fun _ => ⟨bo, off, h3, h4⟩, fun h => absurd h2 h⟩, fun hn => absurd h hn, by unfold mix; rw [if_pos h]; exact h5⟩
              · exact ⟨.slice none 0 0, ⟨_, _, _, rfl⟩, fun _ => ⟨fun h => absurd h h2, fun _ => rfl⟩, fun hn => absurd h hn, by unfold mix; rw [if_pos h]; exact nil A (by rw [← HAN.out]; exact h2)⟩
            · by_cases h2 : j < bn
              · obtain ⟨bo, off, u, h3, h4, h5⟩ := rss_at HBS.out j (by rw [← HBN.out]; exact h2)
                obtain ⟨q, qc, hq, _⟩ := h5.form
                exact ⟨u, ⟨q, _, qc, hq⟩, fun hy => absurd hy h, fun _ => ⟨fun _ => ⟨bo, off, h3, h4⟩, fun h => absurd h2 h⟩, by unfold mix; rw [if_neg h]; exact h5⟩
              · exact ⟨.slice none 0 0, ⟨_, _, _, rfl⟩, fun hy => absurd hy h, fun _ => ⟨fun h => absurd h h2, fun _ => rfl⟩, by unfold mix; rw [if_neg h]; exact nil B (by rw [← HBN.out]; exact h2)⟩
          obtain ⟨V, hV⟩ := Go.Deep.choose_lt (α := Value) (n := one + 1) (fun j hj => each j (by omega))
          exact ⟨V, fun j hj => hV j (by omega)⟩
        obtain ⟨UV, huv⟩ := hUV
        have HUV := Lib.hid huv
        clear huv hb3 he2 hat2 HAR HO HBWR HMADE2
        go_wp2_with fail
        obtain ⟨gI, hgI⟩ : ∃ n, n = w3.heap.size := ⟨_, rfl⟩
        rw [← hgI]
        obtain ⟨W3, hW3⟩ : ∃ W3, W3 = w3.alloc (.cells #[] 44) := ⟨_, rfl⟩
        have hbW3 : Below gI w3 W3 := by rw [hW3, hgI]; exact (Below.refl _ _).alloc (Nat.le_refl _) _
        have hoW3 : OwnsI W3 gI (.slice (some ⟨gI, 0, none⟩) 0 0) ((List.range 0).map UV) := ⟨rfl, .inr ⟨gI, 0, #[], rfl, Nat.le_refl _, by rw [hW3, hgI]; exact heap_alloc_new w3 _, Nat.le_refl _, Nat.zero_le _, rfl, rfl⟩⟩
        have hsW3 : gI + 1 ≤ W3.heap.size := by rw [hW3, hgI]; simp
        rw [← hW3]
        have HGI := Lib.hid hgI
        have H3 := Lib.hid (And.intro hbW3 (And.intro hoW3 hsW3))
        clear hgI hW3 hbW3 hoW3 hsW3 hw3
        go_loopw [14, 15] (fun vo vi wq => ∃ j : Nat, j ≤ one + 1 ∧ vi = .int .i64 (j : Nat) ∧ OwnsI wq gI vo ((List.range j).map UV) ∧ Below gI w3 wq ∧ gI + 1 ≤ wq.heap.size) (fun _ vi _ => (one + 1 - intOf vi).toNat)
        case atStart => exact ⟨0, by omega, rfl, H3.out.2.1, H3.out.1, H3.out.2.2⟩
        case round =>
          obtain ⟨j, hj, rfl, ho, hbw, hsz3⟩ := hrel
          have HO := Lib.hid ho
          have HBQ := Lib.hid hbw
          have HAQ := Lib.hid (HA3.out.grow (w2 := wr) (by rw [← HGI.out]; exact hbw))
          have HCQ := Lib.hid (HC3.out.grow (w2 := wr) (by rw [← HGI.out]; exact hbw))
          have e1 : wr.cell? ⟨bb, 1, none⟩ = some (.slice ap an ac) := (HAQ.out.below.cell (block_lt_of_cell HD.out.2.1)).trans HD.out.2.1
          have e2 : wr.cell? ⟨bb, 2, none⟩ = some (.slice bp bn bc) := (HAQ.out.below.cell (block_lt_of_cell HD.out.2.2)).trans HD.out.2.2
          obtain ⟨op3, oc3, hve3⟩ := HO.out.form
          subst hve3
          rw [List.length_map, List.length_range] at HO ⊢
          clear ho hbw H3
          by_cases hle : j ≤ one
          · obtain ⟨⟨qp, qn, qc, hq⟩, hUA, hUB, _⟩ := HUV.out j hle
            rw [hq] at hUA hUB
            have hsnoc : (List.range (j + 1)).map UV = (List.range j).map UV ++ [.slice qp qn qc] := by rw [List.range_succ, List.map_append, ← hq]; rfl
            have FIN : Hid (∀ v5 w5, OwnsI w5 gI v5 ((List.range j).map UV ++ [.slice qp qn qc]) → (wr.alloc (.cells #[.slice qp qn qc] 44)).grownBy w5 (Value.slice op3 j oc3).ownBlock → Hid (OwnsI w5 gI v5 ((List.range (j + 1)).map UV) ∧ Below gI w3 w5 ∧ gI + 1 ≤ w5.heap.size)) := fun v5 w5 ho5 hg5 => by
              rw [← hsnoc] at ho5
              exact ⟨ho5, (HBQ.out.alloc (by omega) _).grown hg5 (by simp; omega) (fun k hk => (OwnsI.block HO.out hk).1), by have := hg5.size; simp at this; omega⟩
            have k := fun (a : Addr) (v : Value) (hc : W.cell? a = some v) => (HAQ.out.below.cell (block_lt_of_cell hc)).trans hc
            have D1 : Hid ((wr.alloc (.cells #[.slice qp qn qc] 44)).cell? ⟨wr.heap.size, 0, none⟩ = some (.slice qp qn qc)) := by unfold Hid; simp
            have D2 : Hid (((List.range j).map UV).length ≤ 1048576) := by unfold Hid; rw [List.length_map, List.length_range]; omega
            have D3 : Hid (gI ≤ (wr.alloc (.cells #[.slice qp qn qc] 44)).heap.size) := by unfold Hid; simp; omega
            have j0 : (0 : Int) ≤ (j : Int) := by omega
            clear hq hsnoc
            by_cases hj1 : j = one
            · have ej : ((j : Int) == (one : Int)) = true := by rw [hj1, beq_self_eq_true]
              have hUA := hUA hj1
              clear hUB
              by_cases hb : j < bn
              · obtain ⟨bo, off, ub, rfl, hcb, hib⟩ := rss_at HBS.out j (by rw [← HBN.out]; exact hb)
                obtain ⟨rp, rc, rfl, _⟩ := hib.form
                have cb := k _ _ hcb
                have ib : (j : Int) < (bn : Int) := by omega
                by_cases h2 : j < an
                · obtain ⟨ao, aoff, rfl, hca⟩ := hUA.1 h2
                  have ca := k _ _ hca
                  have ia : (j : Int) < (an : Int) := by omega
                  clear hUA hca hcb hib k hj1 hb h2
                  go_wp2_with (at_builtin; refine wpList_append_i rfl _ _ rfl rfl (World.ownsRow.alloc HO.out _) wr.heap.size 1 (.slice qp qn qc) rfl D1.out rfl D2.out D3.out ?_; intro v5 w5 ho5 hg5; have R := FIN.out v5 w5 ho5 hg5; clear ho5 hg5)
                  exact ⟨⟨j + 1, by omega, rfl, R.out⟩, by simp [intOf]; omega⟩
                · have hu := hUA.2 h2
                  injection hu with hu1 hu2 hu3
                  subst hu1 hu2 hu3
                  have ia : ¬ (j : Int) < (an : Int) := by omega
                  clear hUA hcb hib k hj1 hb h2
                  go_wp2_with (at_builtin; refine wpList_append_i rfl _ _ rfl rfl (World.ownsRow.alloc HO.out _) wr.heap.size 1 (.slice none 0 0) rfl D1.out rfl D2.out D3.out ?_; intro v5 w5 ho5 hg5; have R := FIN.out v5 w5 ho5 hg5; clear ho5 hg5)
                  exact ⟨⟨j + 1, by omega, rfl, R.out⟩, by simp [intOf]; omega⟩
              · have ib : ¬ (j : Int) < (bn : Int) := by omega
                by_cases h2 : j < an
                · obtain ⟨ao, aoff, rfl, hca⟩ := hUA.1 h2
                  have ca := k _ _ hca
                  have ia : (j : Int) < (an : Int) := by omega
                  clear hUA hca k hj1 hb h2
                  go_wp2_with (at_builtin; refine wpList_append_i rfl _ _ rfl rfl (World.ownsRow.alloc HO.out _) wr.heap.size 1 (.slice qp qn qc) rfl D1.out rfl D2.out D3.out ?_; intro v5 w5 ho5 hg5; have R := FIN.out v5 w5 ho5 hg5; clear ho5 hg5)
                  exact ⟨⟨j + 1, by omega, rfl, R.out⟩, by simp [intOf]; omega⟩
                · have hu := hUA.2 h2
                  injection hu with hu1 hu2 hu3
                  subst hu1 hu2 hu3
                  have ia : ¬ (j : Int) < (an : Int) := by omega
                  clear hUA k hj1 hb h2
                  go_wp2_with (at_builtin; refine wpList_append_i rfl _ _ rfl rfl (World.ownsRow.alloc HO.out _) wr.heap.size 1 (.slice none 0 0) rfl D1.out rfl D2.out D3.out ?_; intro v5 w5 ho5 hg5; have R := FIN.out v5 w5 ho5 hg5; clear ho5 hg5)
                  exact ⟨⟨j + 1, by omega, rfl, R.out⟩, by simp [intOf]; omega⟩
            · have ej : ((j : Int) == (one : Int)) = false := by rw [beq_eq_false_iff_ne]; omega
              have hUB := (hUB hj1)
              clear hUA
              by_cases hb : j < bn
              · obtain ⟨bo, off, rfl, hcb⟩ := hUB.1 hb
                have cb := k _ _ hcb
                have ib : (j : Int) < (bn : Int) := by omega
                clear hUB hcb k hj1 hb
                go_wp2_with (at_builtin; refine wpList_append_i rfl _ _ rfl rfl (World.ownsRow.alloc HO.out _) wr.heap.size 1 (.slice qp qn qc) rfl D1.out rfl D2.out D3.out ?_; intro v5 w5 ho5 hg5; have R := FIN.out v5 w5 ho5 hg5; clear ho5 hg5)
                exact ⟨⟨j + 1, by omega, rfl, R.out⟩, by simp [intOf]; omega⟩
              · have hu := hUB.2 hb
                injection hu with hu1 hu2 hu3
                subst hu1 hu2 hu3
                have ib : ¬ (j : Int) < (bn : Int) := by omega
                clear hUB k hj1 hb
                go_wp2_with (at_builtin; refine wpList_append_i rfl _ _ rfl rfl (World.ownsRow.alloc HO.out _) wr.heap.size 1 (.slice none 0 0) rfl D1.out rfl D2.out D3.out ?_; intro v5 w5 ho5 hg5; have R := FIN.out v5 w5 ho5 hg5; clear ho5 hg5)
                exact ⟨⟨j + 1, by omega, rfl, R.out⟩, by simp [intOf]; omega⟩
          · have hje : j = one + 1 := by omega
            subst hje
            have hrs : Rss wr (.slice op3 (one + 1) oc3) ((List.range (one + 1)).map (mix A B one)) := by
              have hgd : ∀ {α : Type} (f : Nat → α) (d : α) (i : Nat), i < one + 1 → ((List.range (one + 1)).map f).getD i d = f i := fun f d i hi => by rw [List.getD_eq_getElem?_getD, List.getElem?_map, List.getElem?_range hi]; rfl
              refine HO.out.rss (by rw [List.length_map, List.length_map]) fun i hi => ?_
              rw [List.length_map, List.length_range] at hi
              rw [hgd _ _ i hi, hgd _ _ i hi]
              exact ((HUV.out i (by omega)).2.2.2).below HAQ.out.below
            have hcl : ∀ i, (((List.range (one + 1)).map (mix A B one)).getD i []).length ≤ 1048576 := fun i => by
              by_cases hi : i < one + 1
              · rw [List.getD_eq_getElem?_getD, List.getElem?_map, List.getElem?_range hi]
                show (mix A B one i).length ≤ _
                unfold mix
                split
                · exact HAL.out i
                · exact HBL.out i
              · rw [List.getD_eq_getElem?_getD, List.getElem?_eq_none (by rw [List.length_map, List.length_range]; omega)]
                exact Nat.zero_le _
            have hone : ((List.range (one + 1)).map (mix A B one)).getD one [] = A.getD one [] := by
              rw [List.getD_eq_getElem?_getD, List.getElem?_map, List.getElem?_range (by omega)]
              show mix A B one one = _
              unfold mix
              rw [if_pos rfl]
            obtain ⟨css, hcss⟩ : ∃ c, c = (List.range (one + 1)).map (mix A B one) := ⟨_, rfl⟩
            rw [← hcss] at hrs hcl hone
            have HRS := Lib.hid hrs
            have HCLB := Lib.hid hcl
            have hlc := length_mk ss os'
            rw [← HMM.out] at hlc
            have i1 : one < (dk0 (mk ss os)).l.length := by show one < (mk ss os).length; rw [HLEN.out]; exact honem
            have i2 : one < (dk0 (mk ss os')).l.length := by show one < (mk ss os').length; rw [hlc]; exact honem
            obtain ⟨x, hx⟩ : ∃ x, x = (mk ss os).getD one Fl.zero := ⟨_, rfl⟩
            have hx2 : (mk ss os').getD one Fl.zero = x := by rw [hx]; exact HMK.out.symm
            have q1 : ((dk0 (mk ss os)).after A).getD one ⟨#[]⟩ = left x (A.getD one []) := by rw [getD_after _ _ _ i1]; show left ((mk ss os).getD one Fl.zero) _ = _; rw [← hx]
            have q2 : ((dk0 (mk ss os')).after css).getD one ⟨#[]⟩ = left x (A.getD one []) := by rw [getD_after _ _ _ i2]; show left ((mk ss os').getD one Fl.zero) _ = _; rw [hx2, hone]
            have q3 : (dk0 (mk ss os)).files.getD one ⟨#[]⟩ = rd x := by rw [getD_files _ _ i1]; show rd ((mk ss os).getD one Fl.zero) = _; rw [← hx]
            have q4 : (dk0 (mk ss os')).files.getD one ⟨#[]⟩ = rd x := by rw [getD_files _ _ i2]; show rd ((mk ss os').getD one Fl.zero) = _; rw [hx2]
            have q5 : ((dk0 (mk ss os)).l.getD one Fl.zero).ws.length = x.ws.length := by show ((mk ss os).getD one Fl.zero).ws.length = _; rw [← hx]
            have q6 : ((dk0 (mk ss os')).l.getD one Fl.zero).ws.length = x.ws.length := by show ((mk ss os').getD one Fl.zero).ws.length = _; rw [hx2]
            have l1 : ((dk0 (mk ss os)).after A).length = m := by rw [length_after]; exact HLEN.out
            have l2 : ((dk0 (mk ss os')).after css).length = m := by rw [length_after]; exact hlc
            have l3 : (dk0 (mk ss os)).files.length = m := by rw [length_files]; exact HLEN.out
            have l4 : (dk0 (mk ss os')).files.length = m := by rw [length_files]; exact hlc
            have Q := Lib.hid (And.intro q1 (And.intro q2 (And.intro q3 (And.intro q4 (And.intro q5 q6)))))
            have LL := Lib.hid (And.intro l1 (And.intro l2 (And.intro l3 l4)))
            have II := Lib.hid (And.intro i1 i2)
            clear hrs hcl hone hcss hlc i1 i2 hx hx2 q1 q2 q3 q4 q5 q6 l1 l2 l3 l4 hle hj HO HBQ HA3 HC3
            go_wp2_with fail
            refine (HAQ.out.afterF OK0.out _ A (HAS.out.below HAQ.out.below) HAL.out).mono ?_
            rintro e w4 ⟨v4, rfl, hw4, hat, hb4⟩
            obtain ⟨p4, c4, rfl, _⟩ := hw4.form
            rw [LL.out.1] at hw4
            rw [LL.out.1]
            have HV4 := Lib.hid hw4
            have HA4 := Lib.hid hat
            have HC4 := Lib.hid (HCQ.out.grow hb4)
            have HRS4 := Lib.hid (HRS.out.below hb4)
            clear hat hw4 hb4 e1 e2 HRS HAQ HCQ
            go_wp2_with fail
            refine (HC4.out.afterF OKC.out _ css HRS4.out HCLB.out).mono ?_
            rintro e w5 ⟨v5, rfl, hw5, hat, hb5⟩
            obtain ⟨p5, c5, rfl, _⟩ := hw5.form
            rw [LL.out.2.1] at hw5
            rw [LL.out.2.1]
            have HV5 := Lib.hid hw5
            have HV45 := Lib.hid (HV4.out.below hb5)
            have HC5 := Lib.hid hat
            have HA5 := Lib.hid (HA4.out.grow hb5)
            clear hat hw5 hb5 HV4 HA4 HC4 HRS4
            go_wp2_with fail
            refine (HA5.out.filesF OK0.out).mono ?_
            rintro e w6 ⟨v6, rfl, hw6, hat, hb6⟩
            obtain ⟨p6, c6, rfl, _⟩ := hw6.form
            rw [LL.out.2.2.1] at hw6
            rw [LL.out.2.2.1]
            have HV6 := Lib.hid hw6
            have HV46 := Lib.hid (HV45.out.below hb6)
            have HV56 := Lib.hid (HV5.out.below hb6)
            have HA6 := Lib.hid hat
            have HC6 := Lib.hid (HC5.out.grow hb6)
            clear hat hw6 hb6 HV45 HV5 HA5 HC5
            go_wp2_with fail
            refine (HC6.out.filesF OKC.out).mono ?_
            rintro e w7 ⟨v7, rfl, hw7, hat, hb7⟩
            obtain ⟨p7, c7, rfl, _⟩ := hw7.form
            rw [LL.out.2.2.2] at hw7
            rw [LL.out.2.2.2]
            have HC7 := Lib.hid hat
            have HA7 := Lib.hid (HA6.out.grow hb7)
            obtain ⟨g4, o4, rfl, x4⟩ := strs_at (HV46.out.below hb7).strs one (by rw [LL.out.1]; exact honem)
            obtain ⟨g5, o5, rfl, x5⟩ := strs_at (HV56.out.below hb7).strs one (by rw [LL.out.2.1]; exact honem)
            obtain ⟨g6, o6, rfl, x6⟩ := strs_at (HV6.out.below hb7).strs one (by rw [LL.out.2.2.1]; exact honem)
            obtain ⟨g7, o7, rfl, x7⟩ := strs_at hw7.strs one (by rw [LL.out.2.2.2]; exact honem)
            rw [Q.out.1] at x4
            rw [Q.out.2.1] at x5
            rw [Q.out.2.2.1] at x6
            rw [Q.out.2.2.2.1] at x7
            have y4 := fun t : Grow w7 => t.cell x4
            have y5 := fun t : Grow w7 => t.cell x5
            have y6 := fun t : Grow w7 => t.cell x6
            have y7 := fun t : Grow w7 => t.cell x7
            have C1 : Hid (∀ t : Grow w7, Calls Try.prog 14 #[.pointer (some ⟨b, 0, none⟩), .int .i64 (one : Nat)] t.val fun e w' => e = .returned (.int .i64 (x.ws.length : Nat)) ∧ Below t.val.heap.size t.val w') := fun t => by
              have := waitingYes (HA7.out.grow t.below).disk one II.out.1
              rw [Q.out.2.2.2.2.1] at this
              exact this.mono fun e w' ⟨h1, h2⟩ => ⟨h1, h2 ▸ Below.refl _ _⟩
            have C2 : Hid (∀ t : Grow w7, Calls Try.prog 14 #[.pointer (some ⟨b2, 0, none⟩), .int .i64 (one : Nat)] t.val fun e w' => e = .returned (.int .i64 (x.ws.length : Nat)) ∧ Below t.val.heap.size t.val w') := fun t => by
              have := waitingYes (HC7.out.grow t.below).disk one II.out.2
              rw [Q.out.2.2.2.2.2] at this
              exact this.mono fun e w' ⟨h1, h2⟩ => ⟨h1, h2 ▸ Below.refl _ _⟩
            have C3 : Hid (∀ t : Grow w7, Calls Try.prog 10 #[] t.val fun e w' => e = .returned (.bool true) ∧ Below t.val.heap.size t.val w') := fun t => fixedW t.val
            have k1 : (0 : Int) ≤ (one : Int) := by omega
            have k2 : (one : Int) < (m : Int) := by omega
            obtain ⟨n, hn⟩ : ∃ n, n = x.ws.length := ⟨_, rfl⟩
            rw [← hn] at C1 C2
            obtain ⟨lx, hlx⟩ : ∃ s, s = left x (A.getD one []) := ⟨_, rfl⟩
            rw [← hlx] at y4 y5
            obtain ⟨rx, hrx⟩ : ∃ s, s = rd x := ⟨_, rfl⟩
            rw [← hrx] at y6 y7
            have s1 : (lx.toList == lx.toList) = true := beq_self_eq_true _
            have s2 : (rx.toList == rx.toList) = true := beq_self_eq_true _
            have s3 : ((n : Int) == (n : Int)) = true := beq_self_eq_true _
            clear hat hw7 hb7 x4 x5 x6 x7 HV46 HV56 HV6 hn hlx hrx
            go_wp2_with fail
            refine wp_region_fam (by kernel_rfl) (by kernel_rfl) Grow.val (Grow.start w7) ?_
            repeat go_big_quiet_step ((with_reducible first | refine Calls.fam_of (C1.out _) (Grow.more _) | refine Calls.fam_of (C2.out _) (Grow.more _) | refine Calls.fam_of (C3.out _) (Grow.more _)))
            refine wpQuiet_nil ?_
            intro t
            go_wp2_with fail
            go_ret
            exact ⟨rfl, HBW.out.trans ((HA7.out.grow t.below).below.mono HBW.out.size)⟩
end Go.Proofs.Ytpaldmbffmhphaa
