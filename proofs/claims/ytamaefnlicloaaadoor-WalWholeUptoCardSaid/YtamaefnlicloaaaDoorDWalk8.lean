/- Walks of the program's disk: Clone, Arm. -/
import Derived.Test.YtamaefnlicloaaaDoorDWalk7
import Derived.WalkSpells
namespace Go.Proofs.YtamaefnlicloaaaDoor
set_option linter.unusedVariables false
open Go.RowKit
/-- The cells of a disk's files. -/
def filCells (w : World) (g n : Nat) : List Value := (List.range (n * 2)).map fun j => (w.cell? ⟨g, j, none⟩).getD undef
theorem filCells_get {w : World} {g cap : Nat} {l : List Fl} (h : FilesAt w g cap l) (j : Nat) (hj : j < l.length * 2) : (filCells w g l.length)[j]? = w.cell? ⟨g, j, none⟩ := by
  unfold filCells
  obtain ⟨v, hv⟩ := Option.isSome_iff_exists.1 (h.there hj)
  rw [List.getElem?_map, List.getElem?_range hj, Option.map_some]
  simp only [hv, Option.getD_some]
theorem filCells_one {w : World} {g cap : Nat} {l : List Fl} (h : FilesAt w g cap l) : ∀ u ∈ filCells w g l.length, u.oneCell' = true := by
  intro u hu
  obtain ⟨j, hj, rfl⟩ := List.mem_map.1 hu
  have hj := List.mem_range.1 hj
  rcases Nat.mod_two_eq_zero_or_one j with h0 | h0
  · have := h.safe (j / 2) (by omega)
    rw [show j / 2 * 2 = j by omega] at this
    rw [this]; rfl
  · obtain ⟨v, hv, hw⟩ := h.ws (j / 2) (by omega)
    rw [show j / 2 * 2 + 1 = j by omega] at hv
    rw [hv]
    obtain ⟨p, c, rfl, _⟩ := hw.form
    rfl
theorem FilesAt.of_own {w w' : World} {g cap base : Nat} {l : List Fl} {v : Value} (h : FilesAt w g cap l) (hb : Below w.heap.size w w') (ho : w'.ownsRow base 81 2 v l.length (filCells w g l.length)) (h0 : 0 < l.length) :
    ∃ g' cap', v = .slice (some ⟨g', 0, none⟩) l.length cap' ∧ base ≤ g' ∧ FilesAt w' g' cap' l := by
  rcases ho.2 with ⟨_, hn⟩ | ⟨g', cap', cur, hv, hb', hg, h3, h4, h5, h6⟩
  · omega
  · subst hv
    have hc := fun j hj => World.ownsRow.cellAt (w := w') (base := base) (e := 81) (size := 2) (g := g') (cap := cap') (n := l.length) (xs := filCells w g l.length) ho j hj
    refine ⟨g', cap', rfl, hb', ⟨⟨cur, hg, h5⟩, h4, h3, fun i hi => ?_, fun i hi => ?_⟩⟩
    · rw [hc _ (by omega), filCells_get h _ (by omega)]; exact h.safe i hi
    · obtain ⟨u, hu, hw⟩ := h.ws i hi
      exact ⟨u, by rw [hc _ (by omega), filCells_get h _ (by omega)]; exact hu, hw.below hb⟩
set_option maxRecDepth 100000 in
set_option maxHeartbeats 800000 in
theorem cloneFW {w : World} {g cap : Nat} {l : List Fl} (h : FilesAt w g cap l) (h0 : 0 < l.length) (hl : l.length ≤ 32) :
    Calls Tryd.prog 56 #[.slice (some ⟨g, 0, none⟩) l.length cap] w fun e w' => ∃ g' cap', e = .returned (.slice (some ⟨g', 0, none⟩) l.length cap') ∧ w.heap.size ≤ g' ∧ FilesAt w' g' cap' l ∧ Below w.heap.size w w' := by
  have hnil := run_eql_slice_nil (P := Tryd.prog) w 77 81 (some ⟨g, 0, none⟩) l.length cap Tryd.underlying77
  have H := Lib.hid h
  have hone := filCells_one h
  have hget := fun j => filCells_get h j
  have hlen : (filCells w g l.length).length = l.length * 2 := by unfold filCells; rw [List.length_map, List.length_range]
  have HONE := Lib.hid hone
  have HLEN := Lib.hid hlen
  have hb0 : Below w.heap.size w (w.alloc (.cells #[] 81)) := (Below.refl _ _).alloc (Nat.le_refl _) _
  have HSRC : Hid (∀ j u, (filCells w g l.length)[j]? = some u → (w.alloc (.cells #[] 81)).cell? ((⟨g, 0, none⟩ : Addr).add j) = some u) := fun j u hu => by
    have hj : j < l.length * 2 := by have := (List.getElem?_eq_some_iff.1 hu).1; omega
    rw [hget j hj] at hu
    rw [show (⟨g, 0, none⟩ : Addr).add j = ⟨g, j, none⟩ by unfold Addr.add; split <;> simp_all]
    exact (hb0.cell (block_lt_of_cell hu)).trans hu
  obtain ⟨i0, hi0, hz0, hz1, hz2⟩ := info_parts infoFile
  have HB0 := Lib.hid hb0
  have hown : (w.alloc (.cells #[] 81)).ownsRow w.heap.size 81 2 (.slice (some ⟨w.heap.size, 0, none⟩) 0 0) 0 [] := ⟨rfl, .inr ⟨w.heap.size, 0, #[], rfl, Nat.le_refl _, heap_alloc_new w _, Nat.le_refl _, by unfold maxLen; omega, rfl, rfl⟩⟩
  have HOWN := Lib.hid hown
  clear h hone hget hlen hb0 hown
  go_enter Tryd.func56, Tryd.ntmps56
  go_wp2_with (at_builtin; refine wpList_append_own_at _ rfl _ _ 77 rfl w.heap.size 81 i0 (.agg #[.string ⟨#[]⟩, .slice none 0 0]) 2 40 Tryd.underlying77 hi0 hz0 hz1 hz2 rfl (by decide) (.slice (some ⟨w.heap.size, 0, none⟩) 0 0) 0 [] rfl HOWN.out ⟨g, 0, none⟩ l.length cap (filCells w g l.length) rfl HLEN.out HSRC.out HONE.out (by unfold maxLen; omega) (by omega) (by simp) ?_)
  intro v5 w5 ho5 hg5 _ _
  have hb5 : Below w.heap.size w w5 := HB0.out.grown hg5 (by simp) (fun k hk => by simp [Value.ownBlock] at hk; omega)
  obtain ⟨g', cap', rfl, hge, hfs⟩ := H.out.of_own hb5 ho5 h0
  have R := Lib.hid (And.intro hge (And.intro hfs hb5))
  clear ho5 hg5 hb5 hge hfs
  go_wp2_with fail
  go_ret
  exact ⟨g', cap', rfl, R.out.1, R.out.2.1, R.out.2.2⟩
set_option maxRecDepth 100000 in
set_option maxHeartbeats 800000 in
theorem cloneW {b g cap : Nat} {D : Dk} {w : World} (h : IsDisk w b g cap D) (hok : DOk D) :
    Calls Tryd.prog 34 #[.pointer (some ⟨b, 0, none⟩)] w fun e w' => ∃ b' g' cap', e = .returned (.pointer (some ⟨b', 0, none⟩)) ∧ IsDisk w' b' g' cap' D ∧ w.heap.size ≤ b' ∧ w.heap.size ≤ g' ∧ Below w.heap.size w w' := by
  obtain ⟨c0, c1, ⟨cv, c2, hcv⟩, c3⟩ := h.cells
  obtain ⟨q, qc, rfl, _⟩ := hcv.rss
  have hbl := h.lt
  have hn := hok.n
  have hp := hok.pos
  have HF := Lib.hid (fun (w1 : World) (hb : Below w.heap.size w w1) => cloneFW (h.fs.below hb) hp hn)
  have HCV := Lib.hid hcv
  have hb1 : Below w.heap.size w (w.alloc (.cells #[.slice (some ⟨g, 0, none⟩) D.l.length cap, .int .i64 (D.armed : Nat), .slice q D.ch.length qc, .bool D.dead] 79)) := (Below.refl _ _).alloc (Nat.le_refl _) _
  have HB1 := Lib.hid hb1
  clear h hcv hok hb1
  go_enter Tryd.func34, Tryd.ntmps34
  go_wp2_with fail
  refine (HF.out _ HB1.out).mono ?_
  rintro e w2 ⟨g', cap', rfl, hge, hfs, hb2⟩
  have hblk : w2.heap[w.heap.size]? = some (.cells #[.slice (some ⟨g, 0, none⟩) D.l.length cap, .int .i64 (D.armed : Nat), .slice q D.ch.length qc, .bool D.dead] 79 (0, 0)) := (hb2.block _ (by simp)).trans (heap_at rfl)
  have k0 := cell_of_row w2 w.heap.size 0 _ _ _ hblk
  have f0 := frozen_of_row w2 w.heap.size 0 _ _ hblk
  have hset := setCell_blk w2 w.heap.size 0 (.slice (some ⟨g', 0, none⟩) D.l.length cap') hblk
  simp at hge
  have hge2 : w.heap.size ≤ g' := by omega
  have hc : Chg (fun k => k = w.heap.size) w2 (w2.setCell ⟨w.heap.size, 0, none⟩ (.slice (some ⟨g', 0, none⟩) D.l.length cap')) := Chg.setCell (fun k => k = w.heap.size) w2 rfl _
  have hb : Below w.heap.size w w2 := HB1.out.trans (hb2.mono (by simp))
  have hid : IsDisk (w2.setCell ⟨w.heap.size, 0, none⟩ (.slice (some ⟨g', 0, none⟩) D.l.length cap')) w.heap.size g' cap' D := by
    refine ⟨⟨.slice q D.ch.length qc, hset, ?_⟩, hfs.keep hc (by omega) (muts_blk hblk)⟩
    exact WCs.keep (WCs.keep HCV.out (Chg.of_below (fun _ => False) hb) (muts_none w)) hc (muts_blk hblk)
  have R := Lib.hid (And.intro hid (hb.setCell (p := ⟨w.heap.size, 0, none⟩) (Nat.le_refl _) (.slice (some ⟨g', 0, none⟩) D.l.length cap')))
  clear hge hfs hb2 hblk hset hc hb hid c0 c1 c2 c3
  go_wp2_with fail
  go_ret
  exact ⟨_, g', cap', rfl, R.out.1, Nat.le_refl _, hge2, R.out.2⟩
theorem infoInt : (Tryd.prog.info? 3).map (fun i => (i.zero, i.size, i.bytes)) = some (some (.int .i64 0), 1, 8) := by kernel_rfl
theorem infoInts : (Tryd.prog.info? 57).map (fun i => (i.zero, i.size, i.bytes)) = some (some (.slice none 0 0), 1, 24) := by kernel_rfl
theorem makeI (u : World) (n : Nat) (hn : n ≤ 1048576) : (Instr.makeSlice 57 (.int .i64 (n : Int)) (.int .i64 (n : Int))).run Tryd.prog u = .ok (.slice (some ⟨u.heap.size, 0, none⟩) n n) (u.alloc (.cells (madeCells #[.int .i64 0] n) 3)) := by
  obtain ⟨i0, hi0, hz0, hz1, hz2⟩ := info_parts infoInt
  have h := run_make (P := Tryd.prog) u 57 3 i0 (.int .i64 0) Tryd.underlying57 hi0 hz0 .i64 .i64 (n : Int) (n : Int) (by omega) (by omega) (by rw [hz2]; omega) (by omega)
  rw [hz1] at h
  simpa [Value.cells] using h
theorem makeII (u : World) (n : Nat) (hn : n ≤ 1048576) : (Instr.makeSlice 48 (.int .i64 (n : Int)) (.int .i64 (n : Int))).run Tryd.prog u = .ok (.slice (some ⟨u.heap.size, 0, none⟩) n n) (u.alloc (.cells (madeCells #[.slice none 0 0] n) 57)) := by
  obtain ⟨i0, hi0, hz0, hz1, hz2⟩ := info_parts infoInts
  have h := run_make (P := Tryd.prog) u 48 57 i0 (.slice none 0 0) Tryd.underlying48 hi0 hz0 .i64 .i64 (n : Int) (n : Int) (by omega) (by omega) (by rw [hz2]; omega) (by omega)
  rw [hz1] at h
  simpa [Value.cells] using h
theorem size_made1 (z : Value) (n : Nat) : (madeCells #[z] n).size = n := by simp [madeCells]
/-- Ints in a block of their own from base on. -/
def WIb (w : World) (base : Nat) (v : Value) (zs : List Int) : Prop := w.ownsRow base 3 1 v (zs.map (Value.int .i64)).length (zs.map (Value.int .i64))
theorem row_base {w : World} {base e size n : Nat} {v : Value} {xs : List Value} (h : w.ownsRow base e size v n xs) {B : Nat} (hB : B ≤ base) : w.ownsRow B e size v n xs :=
  ⟨h.1, h.2.imp id (fun ⟨g, cap, cur, e, hh, r⟩ => ⟨g, cap, cur, e, Nat.le_trans hB hh, r⟩)⟩
theorem WIb.wi {w : World} {base : Nat} {v : Value} {zs : List Int} (h : WIb w base v zs) : WI w v zs := row_base h (Nat.zero_le _)
theorem row_keep {S : Nat → Prop} {w w' : World} {base T n : Nat} {v : Value} {xs : List Value} (h : w.ownsRow base T 1 v n xs) (hc : Chg S w w') (hm : ∀ k, k < w.heap.size → base ≤ k → S k → ∀ cur fr, w.heap[k]? ≠ some (.cells cur T fr)) : w'.ownsRow base T 1 v n xs := by
  refine ⟨h.1, ?_⟩
  rcases h.2 with h1 | ⟨g, cap, cur, hv, hb, hg, h3, h4, h5, h6⟩
  · exact .inl h1
  · have hlt : g < w.heap.size := (Array.getElem?_eq_some_iff.1 hg).1
    exact .inr ⟨g, cap, cur, hv, hb, (hc.block g hlt (fun hS => hm g hlt hb hS _ _ hg)).trans hg, h3, h4, h5, h6⟩
/-- Choices in blocks of their own, from base on. -/
def WCsB (w : World) (base : Nat) (v : Value) (css : List (List Int)) : Prop :=
  ∃ us : List Value, us.length = css.length ∧ w.ownsRow base 57 1 v us.length us ∧ ∀ i, i < css.length → WIb w base (us.getD i (.slice none 0 0)) (css.getD i [])
theorem WCsB.wcs {w : World} {base : Nat} {v : Value} {css : List (List Int)} (h : WCsB w base v css) : WCs w v css := by
  obtain ⟨us, h1, h2, h3⟩ := h
  exact ⟨us, h1, row_base h2 (Nat.zero_le _), fun i hi => (h3 i hi).wi⟩
/-- They stand where what turns lies below. -/
theorem WCsB.keep {S : Nat → Prop} {w w' : World} {base : Nat} {v : Value} {css : List (List Int)} (h : WCsB w base v css) (hc : Chg S w w') (hS : ∀ k, base ≤ k → ¬ S k) : WCsB w' base v css := by
  obtain ⟨us, h1, h2, h3⟩ := h
  exact ⟨us, h1, row_keep h2 hc (fun k _ hb hk => absurd hk (hS k hb)), fun i hi => row_keep (h3 i hi) hc (fun k _ hb hk => absurd hk (hS k hb))⟩
/-- Own choices, of which the first i are laid. -/
structure OwnC (w : World) (base gO n : Nat) (css : List (List Int)) (i : Nat) : Prop where
  blk : ∃ us : List Value, us.length = n ∧ w.heap[gO]? = some (.cells us.toArray 57 (0, 0)) ∧ (∀ j, j < i → WIb w base (us.getD j (.slice none 0 0)) (css.getD j []))
  le : base ≤ gO
theorem OwnC.wcsB {w : World} {base gO : Nat} {css : List (List Int)} (h : OwnC w base gO css.length css css.length) (hm : css.length ≤ maxLen) : WCsB w base (.slice (some ⟨gO, 0, none⟩) css.length css.length) css := by
  obtain ⟨us, hl, hb, hi⟩ := h.blk
  refine ⟨us, hl, ?_, hi⟩
  refine ⟨by omega, .inr ⟨gO, css.length, us.toArray, by rw [hl], h.le, hb, by omega, hm, by simp [hl], ?_⟩⟩
  rw [Nat.mul_one, hl]
  simp [← hl]
set_option maxHeartbeats 400000 in
theorem armDead {b g cap : Nat} {D : Dk} {w : World} (h : IsDisk w b g cap D) (hd : D.dead = true) (n : Int) (cv : Value) :
    Calls Tryd.prog 23 #[.pointer (some ⟨b, 0, none⟩), .int .i64 n, cv] w fun e w' => e = .returned (.int .i64 2) ∧ w = w' := by
  have h1 := h.cells.2.2.2
  rw [hd] at h1
  clear h hd
  go_enter Tryd.func23, Tryd.ntmps23
  go_wp2_with fail
  go_ret
  exact ⟨rfl, rfl⟩
set_option maxHeartbeats 400000 in
theorem armNeg {b g cap : Nat} {D : Dk} {w : World} (h : IsDisk w b g cap D) (hd : D.dead = false) (n : Int) (hn : n < 0) (cv : Value) :
    Calls Tryd.prog 23 #[.pointer (some ⟨b, 0, none⟩), .int .i64 n, cv] w fun e w' => e = .returned (.int .i64 1) ∧ w = w' := by
  have h1 := h.cells.2.2.2
  rw [hd] at h1
  clear h hd
  go_enter Tryd.func23, Tryd.ntmps23
  go_wp2_with fail
  go_ret
  exact ⟨rfl, rfl⟩
/-- copy of ints into a block just made. -/
theorem wpList_copy_ints {ops : Array Oper} {rest : List Oper} {o : Oper} {a : Act} {w : World} {Q : Exit → Act → World → Prop} (hgd : o.guard = none) (d s : Operand)
    (ho : o.op = .call { callee := .builtin .copy, args := #[d, s], argTypes := #[57, 57] }) (g L qc : Nat) (q : Option Addr) (cs : List Int) (hL : cs.length = L)
    (hd : a.eval d = .slice (some ⟨g, 0, none⟩) L L) (hs : a.eval s = .slice q L qc) (hg : w.heap[g]? = some (.cells (madeCells #[.int .i64 0] L) 3 (0, 0)))
    (hsrc : ∀ i, i < cs.length → ∃ b off, q = some ⟨b, off, none⟩ ∧ w.cell? ⟨b, off + i, none⟩ = some (.int .i64 (cs.getD i 0)))
    (h : ∀ w', w'.heap[g]? = some (.cells (cs.map (Value.int .i64)).toArray 3 (0, 0)) → w.grownBy w' (some g) → w'.heap.size = w.heap.size → wpList Tryd.prog ops Q rest (a.put o.dst (goInt L)) w') : wpList Tryd.prog ops Q (o :: rest) a w := by
  have hinf : (Tryd.prog.info? 3).map (·.size) = some 1 := by kernel_rfl
  by_cases h0 : L = 0
  · have hc : cs = [] := List.eq_nil_of_length_eq_zero (by omega)
    have hfin := h w (by rw [hg, hc, h0]; simp [madeCells]) ⟨rfl, rfl, rfl, Nat.le_refl _, fun _ _ _ => rfl⟩ rfl
    rw [h0] at hd hs hfin
    exact wpList_copy_nothing hgd d s 57 57 ho 3 Tryd.underlying57 hinf _ _ _ _ _ _ hd hs rfl hfin
  · obtain ⟨b, off, hq, _⟩ := hsrc 0 (by omega)
    subst hq
    have hlen : (cs.map (Value.int .i64)).length = L := by rw [List.length_map, hL]
    have hmin : Nat.min L L = L := Nat.min_self L
    have hfin := h (w.setRow g (((madeCells #[.int .i64 0] L).toList.take 0 ++ (cs.map (Value.int .i64) ++ (madeCells #[.int .i64 0] L).toList.drop (0 + (cs.map (Value.int .i64)).length))).toArray)) ?_ ⟨rfl, rfl, rfl, by simp, fun k _ hk => setRow_other w g k _ (fun e => hk (by rw [e]))⟩ (by simp)
    · refine wpList_copy_own hgd d s 57 57 ho 3 Tryd.underlying57 hinf g 0 L L ⟨b, off, none⟩ L qc hd hs _ _ hg (cs.map (Value.int .i64)) (by rw [hlen, hmin]) ?_ (by rw [hlen, size_made1]; omega) ?_ ?_
      · intro j v hv
        have hj : j < cs.length := by have := (List.getElem?_eq_some_iff.1 hv).1; rw [hlen] at this; omega
        obtain ⟨b', off', hq', hc⟩ := hsrc j hj
        have h1 : b = b' := congrArg (fun x : Option Addr => match x with | some a => a.block | none => 0) hq'
        have h2 : off = off' := congrArg (fun x : Option Addr => match x with | some a => a.off | none => 0) hq'
        subst h1
        subst h2
        rw [Addr.add_lit, hc, ← hv, List.getElem?_map, List.getElem?_eq_getElem hj, List.getD_eq_getElem?_getD, List.getElem?_eq_getElem hj]
        rfl
      · intro v hv
        obtain ⟨z, _, rfl⟩ := List.mem_map.1 hv
        rfl
      · rw [hlen]
        rw [hlen] at hfin
        exact hfin
    · rw [setRow_heap w g _ _ _ _ hg]
      refine congrArg (fun l : List Value => some (Obj.cells l.toArray 3 (0, 0))) ?_
      rw [List.take_zero, List.nil_append, List.drop_eq_nil_of_le (by rw [hlen, Array.length_toList, size_made1]; omega), List.append_nil]
set_option maxRecDepth 100000 in
set_option maxHeartbeats 1600000 in
theorem armWB {b g cap : Nat} {D : Dk} {w : World} (h : IsDisk w b g cap D) (hd : D.dead = false) (n : Nat) (hn : n ≤ 9223372036854775807) (cv : Value) (css : List (List Int)) (hcs : Rss w cv css) (hcl : css.length ≤ 1048576) (hcm : ∀ i, (css.getD i []).length ≤ 1048576) :
    Calls Tryd.prog 23 #[.pointer (some ⟨b, 0, none⟩), .int .i64 (n : Nat), cv] w fun e w' => e = .returned (.int .i64 0) ∧ IsDisk w' b g cap ⟨D.l, n, css, D.dead⟩ ∧ Chg (fun k => k = b) w w' ∧ ∃ cv, w'.cell? ⟨b, 2, none⟩ = some cv ∧ WCsB w' w.heap.size cv css := by
  have h1 := h.cells.2.2.2
  rw [hd] at h1
  have H := Lib.hid h
  have hbl := h.lt
  obtain ⟨p, pc, rfl, hcell⟩ := hcs
  have HCELL := Lib.hid hcell
  have HCM := Lib.hid hcm
  obtain ⟨N, hN⟩ : ∃ n, n = css.length := ⟨_, rfl⟩
  rw [← hN] at hcl ⊢
  have HN := Lib.hid hN
  have hm2 := fun u => makeII u N (by omega)
  clear h hd hcell hcm hN
  go_enter Tryd.func23, Tryd.ntmps23
  go_wp2_with fail
  clear h1 hm2
  obtain ⟨W, hW⟩ : ∃ W, W = w.alloc (.cells (madeCells #[.slice none 0 0] N) 57) := ⟨_, rfl⟩
  have hblk : W.heap[w.heap.size]? = some (.cells (madeCells #[.slice none 0 0] N) 57 (0, 0)) := by rw [hW]; exact heap_alloc_new w _
  have hbw : Below w.heap.size w W := by rw [hW]; exact (Below.refl _ _).alloc (Nat.le_refl _) _
  rw [← hW]
  have HO : Hid (OwnC W w.heap.size w.heap.size N css 0) := ⟨⟨(madeCells #[.slice none 0 0] N).toList, by rw [Array.length_toList, size_made1], by rw [Array.toArray_toList]; exact hblk, fun j hj => by omega⟩, Nat.le_refl _⟩
  have HB := Lib.hid hbw
  have hWs : w.heap.size + 1 ≤ W.heap.size := by rw [hW]; simp
  clear hW hblk hbw
  go_loopw [21] (fun vi wr => ∃ i : Nat, i ≤ N ∧ vi = .int .i64 (i : Nat) ∧ OwnC wr w.heap.size w.heap.size N css i ∧ Below w.heap.size w wr ∧ w.heap.size + 1 ≤ wr.heap.size) (fun vi _ => (N - intOf vi).toNat)
  case atStart => exact ⟨0, by omega, rfl, HO.out, HB.out, hWs⟩
  case round =>
    obtain ⟨i, hi, rfl, ho, hb, hws⟩ := hrel
    have HO2 := Lib.hid ho
    have HB2 := Lib.hid hb
    by_cases hlt : i < N
    · obtain ⟨sb, so, u, hp, hx, hu⟩ := HCELL.out i (by rw [← HN.out]; exact hlt)
      subst hp
      have hxm := HCM.out i
      obtain ⟨cs, hcs⟩ : ∃ cs, cs = css.getD i [] := ⟨_, rfl⟩
      rw [← hcs] at hu hxm
      obtain ⟨q, qc, rfl, hq⟩ := hu.form
      obtain ⟨L, hL⟩ : ∃ L, L = cs.length := ⟨_, rfl⟩
      rw [← hL] at hx hxm
      have hxw : wr.cell? ⟨sb, so + i, none⟩ = some (.slice q L qc) := (hb.cell (block_lt_of_cell hx)).trans hx
      have hm1 := fun u => makeI u L hxm
      obtain ⟨us, hul, hub, hui⟩ := ho.blk
      have k0 : ∀ o, (wr.alloc o).cell? ⟨w.heap.size, i, none⟩ = us[i]? := fun o => by
        rw [World.cell?_alloc_lt _ _ _ (by show w.heap.size < _; omega)]
        rw [cell_of_row wr w.heap.size i _ _ _ hub]; simp
      obtain ⟨z, hz⟩ : ∃ z, us[i]? = some z := ⟨us[i]'(by omega), List.getElem?_eq_getElem (by omega)⟩
      have k1 : (wr.alloc (.cells (madeCells #[.int .i64 0] L) 3)).cell? ⟨w.heap.size, i, none⟩ = some z := by rw [k0, hz]
      have f0 : (wr.alloc (.cells (madeCells #[.int .i64 0] L) 3)).frozen? ⟨w.heap.size, i, none⟩ = false := by
        rw [World.frozen?_alloc_old _ _ _ (by show w.heap.size ≠ _; omega)]
        exact frozen_of_row wr w.heap.size i _ _ hub
      have HCS := Lib.hid hcs
      have HL := Lib.hid hL
      have HQ := Lib.hid hq
      have HU := Lib.hid (And.intro hul (And.intro hub hui))
      obtain ⟨W2, hW2⟩ : ∃ W2, W2 = (wr.alloc (.cells (madeCells #[.int .i64 0] L) 3)).setCell ⟨w.heap.size, i, none⟩ (.slice (some ⟨wr.heap.size, 0, none⟩) L L) := ⟨_, rfl⟩
      have h2g : W2.heap[wr.heap.size]? = some (.cells (madeCells #[.int .i64 0] L) 3 (0, 0)) := by
        rw [hW2, Below.heap_setCell _ _ _ _ (by show wr.heap.size ≠ w.heap.size; omega)]; exact heap_alloc_new wr _
      have h2o : W2.heap[w.heap.size]? = some (.cells (us.toArray.setIfInBounds i (.slice (some ⟨wr.heap.size, 0, none⟩) L L)) 57 (0, 0)) := by
        rw [hW2]; exact setCell_blk _ _ _ _ ((heap_lt (by omega)).trans hub)
      have h2c : Chg (fun k => k = w.heap.size) wr W2 := by
        rw [hW2]
        exact (Chg.of_below _ ((Below.refl _ _).alloc (Nat.le_refl _) _)).trans (Chg.setCell (fun k => k = w.heap.size) _ rfl _)
      have h2s : W2.heap.size = wr.heap.size + 1 := by rw [hW2]; simp [World.setCell]
      have hsrc : ∀ i, i < cs.length → ∃ b off, q = some ⟨b, off, none⟩ ∧ W2.cell? ⟨b, off + i, none⟩ = some (.int .i64 (cs.getD i 0)) := fun i hi => by
        obtain ⟨b', o', e, hc⟩ := hq i hi
        have hlt := block_lt_of_cell hc
        exact ⟨b', o', e, h2c.cell (by show ¬ b' = w.heap.size; have : b' < w.heap.size := hlt; omega) ((hb.cell hlt).trans hc)⟩
      have H2 := Lib.hid (And.intro hW2 (And.intro h2g (And.intro h2o (And.intro h2c (And.intro h2s hsrc)))))
      clear hx hu hcs hL hq ho hb hul hub hui k0 hz hW2 h2g h2o h2c h2s hsrc
      go_wp2_with (first | (with_reducible refine wpList_copy_ints (o := ⟨some 37, _, _, _, _, _⟩) rfl _ _ rfl wr.heap.size L qc q cs HL.out.symm ?ca ?cb ?cc ?cd ?_))
      case ca => rfl
      case cb => rfl
      case cc => rw [← H2.out.1]; exact H2.out.2.1
      case cd => rw [← H2.out.1]; exact H2.out.2.2.2.2.2
      rw [← H2.out.1]
      intro w5 h5 hg5 hs5
      have hne : wr.heap.size ≠ w.heap.size := by omega
      have hWI : WIb w5 w.heap.size (.slice (some ⟨wr.heap.size, 0, none⟩) L L) cs := by
        refine ⟨by omega, .inr ⟨wr.heap.size, L, _, ?_, by omega, h5, ?_, by unfold maxLen; omega, ?_, ?_⟩⟩
        · rw [List.length_map, ← HL.out]
        · rw [List.length_map, ← HL.out]; exact Nat.le_refl _
        · simp [← HL.out]
        · simp only [Nat.mul_one, List.length_map]
          exact List.take_of_length_le (by rw [List.length_map]; exact Nat.le_refl _)
      have hch : Chg (fun k => k = w.heap.size ∨ k = wr.heap.size) wr w5 := (H2.out.2.2.2.1.mono (fun k _ h => .inl h)).trans (Chg.of_grown hg5 (.inr rfl))
      have ho5 : OwnC w5 w.heap.size w.heap.size N css (i + 1) := by
        refine ⟨⟨us.set i (.slice (some ⟨wr.heap.size, 0, none⟩) L L), by rw [List.length_set]; exact HU.out.1, ?_, fun j hj => ?_⟩, Nat.le_refl _⟩
        · rw [hg5.block w.heap.size (by rw [H2.out.2.2.2.2.1]; omega) (by intro e; injection e with e; exact hne e.symm), H2.out.2.2.1]
          simp
        · by_cases e : i = j
          · subst e
            rw [getD_set_self _ _ _ _ (by rw [HU.out.1]; exact hlt), ← HCS.out]
            exact hWI
          · rw [getD_set_ne _ _ _ _ _ e]
            refine row_keep (HU.out.2.2 j (by omega)) hch ?_
            intro k hk _ hS cur fr hh
            rcases hS with rfl | rfl
            · rw [HU.out.2.1] at hh
              injection hh with hh
              injection hh with _ hT _
              exact absurd hT (by decide)
            · omega
      have HF := Lib.hid (And.intro ho5 (And.intro (HB2.out.trans (hch.below (B := w.heap.size) (by omega) (fun k hk hS => by rcases hS with rfl | rfl <;> omega))) (show w.heap.size + 1 ≤ w5.heap.size by rw [hs5]; have := H2.out.2.2.2.2.1; omega)))
      clear h5 hg5 hs5 hWI hch ho5 k1 f0 hxw
      go_wp2_with fail
      exact ⟨⟨i + 1, by omega, rfl, HF.out.1, HF.out.2.1, HF.out.2.2⟩, by simp [intOf]; omega⟩
    · have hie : i = N := by omega
      rw [hie, HN.out] at ho
      have hwcb := ho.wcsB (by rw [← HN.out]; unfold maxLen; omega)
      rw [← HN.out] at hwcb
      have hwc := hwcb.wcs
      have hid := H.out.below hb
      have k1 := hid.cells.2.1
      obtain ⟨cv, k2, _⟩ := hid.cells.2.2.1
      have f1 := hid.free 1
      have f2 := hid.free 2
      have hid1 := hid.setArmed n
      have hwc1 := hwc.keep (Chg.setCell (fun k => k = b) wr (j := 1) rfl (.int .i64 (n : Nat))) (by obtain ⟨_, hbb, _⟩ := hid.blk; exact muts_blk hbb)
      have hid2 := hid1.setCh hwc1
      have hcc := (Chg.setCell (fun k => k = b) wr (j := 1) rfl (.int .i64 (n : Nat))).trans (Chg.setCell (fun k => k = b) _ (j := 2) rfl (.slice (some ⟨w.heap.size, 0, none⟩) N N))
      have hwf := hwcb.keep hcc (fun k hk e => by subst e; omega)
      have hcv : ((wr.setCell ⟨b, 1, none⟩ (.int .i64 (n : Nat))).setCell ⟨b, 2, none⟩ (.slice (some ⟨w.heap.size, 0, none⟩) N N)).cell? ⟨b, 2, none⟩ = some (.slice (some ⟨w.heap.size, 0, none⟩) N N) :=
        World.cell?_setCell_same _ _ _ (by rw [World.cell?_setCell_other _ _ _ _ (by intro e; injection e with _ e; omega)]; exact k2)
      have hex : ∃ cv, ((wr.setCell ⟨b, 1, none⟩ (.int .i64 (n : Nat))).setCell ⟨b, 2, none⟩ (.slice (some ⟨w.heap.size, 0, none⟩) N N)).cell? ⟨b, 2, none⟩ = some cv ∧ WCsB ((wr.setCell ⟨b, 1, none⟩ (.int .i64 (n : Nat))).setCell ⟨b, 2, none⟩ (.slice (some ⟨w.heap.size, 0, none⟩) N N)) w.heap.size cv css := ⟨_, hcv, hwf⟩
      have R := Lib.hid (And.intro hid2 (And.intro ((Chg.of_below (fun k => k = b) hb).trans hcc) hex))
      clear ho hwc hid hid1 hwc1 hid2 hb hie HO2 HB2 hcc hwf hcv hwcb hex
      go_wp2_with fail
      go_ret
      exact ⟨rfl, R.out⟩
theorem armW {b g cap : Nat} {D : Dk} {w : World} (h : IsDisk w b g cap D) (hd : D.dead = false) (n : Nat) (hn : n ≤ 9223372036854775807) (cv : Value) (css : List (List Int)) (hcs : Rss w cv css) (hcl : css.length ≤ 1048576) (hcm : ∀ i, (css.getD i []).length ≤ 1048576) :
    Calls Tryd.prog 23 #[.pointer (some ⟨b, 0, none⟩), .int .i64 (n : Nat), cv] w fun e w' => e = .returned (.int .i64 0) ∧ IsDisk w' b g cap ⟨D.l, n, css, D.dead⟩ ∧ Chg (fun k => k = b) w w' :=
  (armWB h hd n hn cv css hcs hcl hcm).mono fun e w' ⟨h1, h2, h3, _⟩ => ⟨h1, h2, h3⟩
end Go.Proofs.YtamaefnlicloaaaDoor
