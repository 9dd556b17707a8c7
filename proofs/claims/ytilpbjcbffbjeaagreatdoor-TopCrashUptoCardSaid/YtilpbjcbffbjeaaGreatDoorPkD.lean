/- Walks of the program's disk: New, Clone, Arm.
   Walks of the program's disk: Clone, Arm.
   What the laws of the disk share: place, Same, New.
   A disk behind a script of writes, syncs and cuts: plain. -/
import Derived.Test.YtilpbjcbffbjeaaGreatDoorPkC
import Derived.WalkSpells
import Derived.RegionTactic
import Derived.ChangeAlike
namespace Go.Proofs.YtilpbjcbffbjeaaGreatDoor
open Go.RowKit
theorem infoFile : (Tryz.prog.info? 97).map (fun i => (i.zero, i.size, i.bytes)) = some (some (.agg #[.string ⟨#[]⟩, .slice none 0 0]), 2, 40) := by kernel_rfl
/-- The cells of files that have no writes. -/
def fcells (ss : List ByteArray) : List Value := ss.flatMap fun s => [.string s, .slice none 0 0]
theorem length_fcells (ss : List ByteArray) : (fcells ss).length = ss.length * 2 := by
  induction ss with
  | nil => rfl
  | cons s ss ih => unfold fcells at *; rw [List.flatMap_cons, List.length_append, ih, List.length_cons, List.length_cons, List.length_cons, List.length_nil]; omega
theorem fcells_snoc (ss : List ByteArray) (s : ByteArray) : fcells (ss ++ [s]) = fcells ss ++ [.string s, .slice none 0 0] := by unfold fcells; rw [List.flatMap_append]; rfl
theorem fcells_get (ss : List ByteArray) (i : Nat) (h : i < ss.length) : (fcells ss)[i * 2]? = some (.string (ss.getD i ⟨#[]⟩)) ∧ (fcells ss)[i * 2 + 1]? = some (.slice none 0 0) := by
  induction ss generalizing i with
  | nil => simp at h
  | cons s ss ih =>
    have e : fcells (s :: ss) = .string s :: .slice none 0 0 :: fcells ss := rfl
    rw [e]
    cases i with
    | zero => exact ⟨rfl, rfl⟩
    | succ i =>
      have := ih i (by simpa using h)
      rw [show (i + 1) * 2 = i * 2 + 1 + 1 by omega, show i * 2 + 1 + 1 + 1 = (i * 2 + 1) + 1 + 1 by omega]
      rw [List.getElem?_cons_succ, List.getElem?_cons_succ, List.getElem?_cons_succ, List.getElem?_cons_succ]
      exact this
def OwnsF (w : World) (base : Nat) (v : Value) (ss : List ByteArray) : Prop := w.ownsRow base 97 2 v ss.length (fcells ss)
theorem OwnsF.block {w : World} {base : Nat} {v : Value} {ss : List ByteArray} (h : OwnsF w base v ss) {k : Nat} (hk : v.ownBlock = some k) : base ≤ k ∧ k < w.heap.size := World.ownsRow.lt h k hk
theorem OwnsF.files {w : World} {base : Nat} {v : Value} {ss : List ByteArray} (h : OwnsF w base v ss) (h0 : 0 < ss.length) : ∃ g cap, v = .slice (some ⟨g, 0, none⟩) ss.length cap ∧ base ≤ g ∧ FilesAt w g cap (ss.map fun s => ⟨s, []⟩) := by
  rcases h.2 with ⟨_, hn⟩ | ⟨g, cap, cur, hv, hb, hg, h3, h4, h5, h6⟩
  · omega
  · subst hv
    have hc := fun j hj => World.ownsRow.cellAt (w := w) (base := base) (e := 97) (size := 2) (g := g) (cap := cap) (n := ss.length) (xs := fcells ss) h j hj
    have hgd : ∀ i, i < ss.length → (ss.map fun s => (⟨s, []⟩ : Fl)).getD i Fl.zero = ⟨ss.getD i ⟨#[]⟩, []⟩ := fun i hi => by
      rw [List.getD_eq_getElem?_getD, List.getElem?_map, List.getElem?_eq_getElem hi, List.getD_eq_getElem?_getD, List.getElem?_eq_getElem hi]; rfl
    refine ⟨g, cap, rfl, hb, ⟨⟨cur, hg, h5⟩, h4, by rw [List.length_map]; exact h3, fun i hi => ?_, fun i hi => ?_⟩⟩
    · rw [List.length_map] at hi
      rw [hgd i hi, hc (i * 2) (by omega)]
      exact (fcells_get ss i hi).1
    · rw [List.length_map] at hi
      rw [hgd i hi]
      exact ⟨.slice none 0 0, (hc (i * 2 + 1) (by omega)).trans (fcells_get ss i hi).2, WS.nil w⟩
theorem wpList_append_f {ops : Array Oper} {rest : List Oper} {o : Oper} {a : Act} {w : World} {Q : Exit → Act → World → Prop} {base : Nat} {v : Value} {ss : List ByteArray}
    (hgd : o.guard = none) (s x : Operand) (ho : o.op = .call { callee := .builtin .append, args := #[s, x], argTypes := #[93, 93] })
    (hs : a.eval s = v) (hown : OwnsF w base v ss) (g c : Nat) (new : ByteArray) (hx : a.eval x = .slice (some ⟨g, 0, none⟩) 1 c)
    (hnew : w.cell? ⟨g, 0, none⟩ = some (.string new) ∧ w.cell? ⟨g, 1, none⟩ = some (.slice none 0 0)) (hsz : ss.length ≤ 1048576) (hbase : base ≤ w.heap.size)
    (h : ∀ v' w', OwnsF w' base v' (ss ++ [new]) → w.grownBy w' v.ownBlock → wpList Tryz.prog ops Q rest (a.put o.dst v') w') : wpList Tryz.prog ops Q (o :: rest) a w := by
  obtain ⟨i0, hi0, hz0, hz1, hz2⟩ := info_parts infoFile
  refine wpList_append_own_at w hgd s x 93 ho base 97 i0 (.agg #[.string ⟨#[]⟩, .slice none 0 0]) 2 40 Tryz.underlying93 hi0 hz0 hz1 hz2 rfl (by decide) v ss.length (fcells ss) hs hown ⟨g, 0, none⟩ 1 c [.string new, .slice none 0 0] hx rfl ?_ (by simp [Value.oneCell']) (by unfold maxLen; omega) (by omega) hbase ?_
  · intro j u hu
    have hj : j < 2 := (List.getElem?_eq_some_iff.1 hu).1
    match j, hj with
    | 0, _ => rw [show u = .string new by simpa using hu.symm]; exact hnew.1
    | 1, _ => rw [show u = .slice none 0 0 by simpa using hu.symm]; exact hnew.2
  · intro v' w' h1 h2 _ _
    refine h v' w' ?_ h2
    unfold OwnsF
    rw [List.length_append, fcells_snoc]
    exact h1
theorem OwnsF.form {w : World} {base : Nat} {v : Value} {ss : List ByteArray} (h : OwnsF w base v ss) : ∃ p cap, v = .slice p ss.length cap := by
  rcases h.2 with ⟨hv, hn⟩ | ⟨g, cap, cur, hv, _⟩
  · exact ⟨none, 0, by rw [hv, hn]⟩
  · exact ⟨_, cap, hv⟩
/-- What New answers. -/
def newErr (ss : List ByteArray) : Int := if ss.length = 0 ∨ 32 < ss.length then 160 else if ss.any (fun s => decide (262144 < s.size)) = true then 161 else 0
def newDk (ss : List ByteArray) : Dk := ⟨ss.map fun s => ⟨s, []⟩, 0, [], false⟩
set_option maxHeartbeats 400000 in
theorem newBad {w : World} (v : Value) (ss : List ByteArray) (h : Strs w v ss) (hb : ss.length = 0 ∨ 32 < ss.length) (hm : ss.length ≤ 140737488355328) :
    Calls Tryz.prog 10 #[v] w fun e w' => e = .returned (.tuple #[.pointer none, .int .i64 160]) ∧ Below w.heap.size w w' := by
  obtain ⟨p, cap, rfl, _⟩ := h.form
  rcases hb with hb | hb
  · rw [hb]
    go_enter Tryz.func10, Tryz.ntmps10
    go_wp2_with fail
    go_ret2
    exact ⟨rfl, Below.refl _ _⟩
  · obtain ⟨n, hn⟩ : ∃ n, n = ss.length := ⟨_, rfl⟩
    rw [← hn] at hb hm ⊢
    have h0 : ((n : Int) == 0) = false := by rw [beq_eq_false_iff_ne]; omega
    clear hn h
    go_enter Tryz.func10, Tryz.ntmps10
    go_wp2_with fail
    go_ret2
    exact ⟨rfl, Below.refl _ _⟩
def NewPost (w : World) (ss : List ByteArray) (e : Ending) (w' : World) : Prop := Below w.heap.size w w' ∧
      ((ss.any (fun s => decide (262144 < s.size)) = true ∧ e = .returned (.tuple #[.pointer none, .int .i64 161])) ∨
       (ss.any (fun s => decide (262144 < s.size)) = false ∧ ∃ b g cap, e = .returned (.tuple #[.pointer (some ⟨b, 0, none⟩), .int .i64 0]) ∧ IsDisk w' b g cap (newDk ss) ∧ w.heap.size ≤ b ∧ w.heap.size ≤ g))
set_option maxRecDepth 100000 in
set_option maxHeartbeats 800000 in
theorem newGood {w : World} (v : Value) (ss : List ByteArray) (h : Strs w v ss) (h1 : 0 < ss.length) (h2 : ss.length ≤ 32) (hm : ∀ i, i < ss.length → (ss.getD i ⟨#[]⟩).size ≤ 140737488355328) :
    Calls Tryz.prog 10 #[v] w (NewPost w ss) := by
  obtain ⟨p, scap, rfl, hcell⟩ := h.form
  have HCELL := Lib.hid hcell
  obtain ⟨n, hn⟩ : ∃ n, n = ss.length := ⟨_, rfl⟩
  rw [← hn] at h1 h2 ⊢
  have h0 : ((n : Int) == 0) = false := by rw [beq_eq_false_iff_ne]; omega
  have h00 : decide ((32 : Int) < (n : Int)) = false := by rw [decide_eq_false_iff_not]; omega
  have HN := Lib.hid hn
  have HM := Lib.hid hm
  clear hn h hcell hm
  go_enter Tryz.func10, Tryz.ntmps10
  go_wp2_with fail
  obtain ⟨b0, hb0⟩ : ∃ b, b = w.heap.size := ⟨_, rfl⟩
  obtain ⟨W, hW⟩ : ∃ W, W = w.alloc (.cells #[.slice none 0 0, .int .i64 0, .slice none 0 0, .bool false] 95) := ⟨_, rfl⟩
  have hblk : W.heap[b0]? = some (.cells #[.slice none 0 0, .int .i64 0, .slice none 0 0, .bool false] 95 (0, 0)) := by rw [hW, hb0]; exact heap_alloc_new w _
  have hbw : Below b0 w W := by rw [hW, hb0]; exact (Below.refl _ _).alloc (Nat.le_refl _) _
  have hsz : b0 + 1 ≤ W.heap.size := by rw [hW, hb0]; simp
  rw [← hW, ← hb0]
  have HBLK := Lib.hid hblk
  have HBW := Lib.hid hbw
  have HB0 := Lib.hid hb0
  clear hW hblk hbw hb0
  go_loopw [19] (fun vi wr => ∃ (i : Nat) (v : Value), i ≤ n ∧ vi = .int .i64 (i : Nat) ∧ wr.heap[b0]? = some (.cells #[v, .int .i64 0, .slice none 0 0, .bool false] 95 (0, 0)) ∧ OwnsF wr (b0 + 1) v (ss.take i) ∧ Below b0 w wr ∧ b0 + 1 ≤ wr.heap.size ∧ (∀ j, j < i → (ss.getD j ⟨#[]⟩).size ≤ 262144)) (fun vi _ => (n - intOf vi).toNat)
  case atStart => exact ⟨0, .slice none 0 0, by omega, rfl, HBLK.out, World.ownsRow_nil _ _ _ _, HBW.out, hsz, fun j hj => by omega⟩
  case round =>
    obtain ⟨i, v, hi, rfl, hblk, ho, hbw, hsz, hsm⟩ := hrel
    have HBL := Lib.hid hblk
    have HO := Lib.hid ho
    have HBW := Lib.hid hbw
    have HSM := Lib.hid hsm
    by_cases hlt : i < n
    · obtain ⟨sb, so, hp, hx⟩ := HCELL.out i (by rw [← HN.out]; exact hlt)
      subst hp
      have hxm := HM.out i (by rw [← HN.out]; exact hlt)
      have htk := take_succ_getD ss i ⟨#[]⟩ (by rw [← HN.out]; exact hlt)
      obtain ⟨x, hxx⟩ : ∃ x, x = ss.getD i ⟨#[]⟩ := ⟨_, rfl⟩
      rw [show (ByteArray.empty : ByteArray) = ⟨#[]⟩ from rfl, ← hxx] at hx
      rw [← hxx] at hxm htk
      have hxw : wr.cell? ⟨sb, so + i, none⟩ = some (.string x) := (hbw.cell (by rw [HB0.out]; exact block_lt_of_cell hx)).trans hx
      have c0 : ∀ o, (wr.alloc o).cell? ⟨b0, 0, none⟩ = some v := fun o => by
        rw [World.cell?_alloc_lt _ _ _ (by show b0 < _; omega)]; exact cell_of_row wr b0 0 _ _ _ hblk
      have c00 : wr.cell? ⟨b0, 0, none⟩ = some v := cell_of_row wr b0 0 _ _ _ hblk
      obtain ⟨vp, vc, rfl⟩ := ho.form
      have HXX := Lib.hid hxx
      have HTK := Lib.hid htk
      have hlen : (ss.take i).length = i := by rw [List.length_take, ← HN.out]; omega
      rw [hlen] at c00 HBL HO
      have HLEN := Lib.hid hlen
      clear hx hxx htk hblk ho hbw hsm c0 hlen
      by_cases hbig : 262144 < x.size
      · go_wp2_with fail
        go_ret2
        refine ⟨HBW.out.mono (by rw [HB0.out]; exact Nat.le_refl _), .inl ⟨?_, rfl⟩⟩
        rw [List.any_eq_true]
        refine ⟨x, ?_, decide_eq_true hbig⟩
        rw [HXX.out, List.getD_eq_getElem?_getD, List.getElem?_eq_getElem (by rw [← HN.out]; exact hlt)]
        exact List.getElem_mem _
      · go_wp2_with (at_builtin; refine wpList_append_f rfl _ _ rfl rfl (World.ownsRow.alloc HO.out _) wr.heap.size 1 x rfl ?d1 ?d2 ?d3 ?_)
        case d1 => exact ⟨by simp, by simp⟩
        case d2 => rw [HLEN.out]; omega
        case d3 => simp; omega
        intro v5 w5 ho5 hg5
        rw [← HTK.out] at ho5
        have hneb : (Value.slice vp i vc).ownBlock ≠ some b0 := fun e => by have := (OwnsF.block HO.out e).1; omega
        have hblk5 : w5.heap[b0]? = some (.cells #[.slice vp i vc, .int .i64 0, .slice none 0 0, .bool false] 95 (0, 0)) :=
          (hg5.block b0 (by simp; omega) (Ne.symm hneb)).trans ((heap_lt (by omega)).trans HBL.out)
        have hb5 : Below b0 w w5 := (HBW.out.alloc (by omega) _).grown hg5 (by simp; omega) (fun k hk => by have := (OwnsF.block HO.out hk).1; omega)
        have hs5 : b0 + 1 ≤ w5.heap.size := by have := hg5.size; simp at this; omega
        obtain ⟨p5, c5, rfl⟩ := ho5.form
        have k0 := cell_of_row w5 b0 0 _ _ _ hblk5
        have f0 := frozen_of_row w5 b0 0 _ _ hblk5
        have hset := setCell_blk w5 b0 0 (.slice p5 (ss.take (i + 1)).length c5) hblk5
        have hlen2 : (ss.take (i + 1)).length = i + 1 := by rw [List.length_take, ← HN.out]; omega
        have ho6 : OwnsF (w5.setCell ⟨b0, 0, none⟩ (.slice p5 (ss.take (i + 1)).length c5)) (b0 + 1) (.slice p5 (ss.take (i + 1)).length c5) (ss.take (i + 1)) :=
          World.ownsRow.kept (row := some b0) ho5 ⟨rfl, rfl, rfl, by simp [World.setCell], fun k _ hk => Below.heap_setCell _ _ _ _ (fun e => hk (by rw [e]))⟩ (.inr (fun e => by have := (OwnsF.block ho5 e).1; omega))
        rw [hlen2] at hset ho6 ⊢
        have R := Lib.hid (And.intro hset (And.intro ho6 (hb5.setCell (p := ⟨b0, 0, none⟩) (Nat.le_refl _) (.slice p5 (i + 1) c5))))
        clear ho5 hg5 hneb hblk5 hb5 hset hlen2 ho6 HBL HO
        go_wp2_with fail
        refine ⟨⟨i + 1, _, by omega, rfl, R.out.1, R.out.2.1, R.out.2.2, by simpa [World.setCell] using hs5, fun j hj => ?_⟩, by simp [intOf]; omega⟩
        by_cases e : j = i
        · subst e; rw [← HXX.out]; omega
        · exact HSM.out j (by omega)
    · have hie : i = n := by omega
      rw [hie, HN.out, List.take_length] at ho
      obtain ⟨g, cap, rfl, hge, hfs⟩ := ho.files (by rw [← HN.out]; exact h1)
      have hdk : IsDisk wr b0 g cap (newDk ss) := by
        refine ⟨⟨.slice none 0 0, ?_, WCs.nil _⟩, hfs, Nat.zero_le _⟩
        show wr.heap[b0]? = some (.cells #[.slice (some ⟨g, 0, none⟩) (ss.map fun s => (⟨s, []⟩ : Fl)).length cap, .int .i64 0, .slice none 0 0, .bool false] 95 (0, 0))
        rw [List.length_map]
        exact hblk
      have hany : ss.any (fun s => decide (262144 < s.size)) = false := by
        rw [List.any_eq_false]
        intro x hx
        obtain ⟨j, hj, rfl⟩ := List.getElem_of_mem hx
        have := hsm j (by rw [hie, HN.out]; exact hj)
        rw [List.getD_eq_getElem?_getD, List.getElem?_eq_getElem hj] at this
        simp only [Option.getD_some] at this
        simp only [decide_eq_true_eq]
        omega
      have R := Lib.hid (And.intro hdk (And.intro hany hge))
      clear hdk hany ho hblk hfs hie hbw hsm HBL HO
      go_wp2_with fail
      go_ret2
      have hb0 := HB0.out
      exact ⟨HBW.out.mono (by omega), .inr ⟨R.out.2.1, b0, g, cap, rfl, R.out.1, by omega, by have := R.out.2.2; omega⟩⟩
end Go.Proofs.YtilpbjcbffbjeaaGreatDoor
namespace Go.Proofs.YtilpbjcbffbjeaaGreatDoor
set_option linter.unusedVariables false
open Go.RowKit
set_option linter.unusedSectionVars false
variable [Avoid]
/-- The cells of a disk's files. -/
def filCells (w : World) (g n : Nat) : List Value := (List.range (n * 2)).map fun j => (w.cell? ⟨g, j, none⟩).getD undef
theorem filCells_get {w : World} {g cap : Nat} {l : List Fl} (h : FilesAt w g cap l) (j : Nat) (hj : j < l.length * 2) : (filCells w g l.length)[j]? = w.cell? ⟨g, j, none⟩ := by
  unfold filCells
  obtain ⟨v, hv⟩ := Option.isSome_iff_exists.1 (h.there hj)
  rw [List.getElem?_map, List.getElem?_range hj, Option.map_some]
  simp only [hv, Option.getD_some]
theorem filCells_one {w : World} {g cap : Nat} {l : List Fl} (h : FilesAt w g cap l) : ∀ u ∈ filCells w g l.length, u.oneCell' = true := by
  intro u hu
  obtain ⟨j, hj, rfl⟩ := List.mem_map.1 hu
  have hj := List.mem_range.1 hj
  rcases Nat.mod_two_eq_zero_or_one j with h0 | h0
  · have := h.safe (j / 2) (by omega)
    rw [show j / 2 * 2 = j by omega] at this
    rw [this]; rfl
  · obtain ⟨v, hv, hw⟩ := h.ws (j / 2) (by omega)
    rw [show j / 2 * 2 + 1 = j by omega] at hv
    rw [hv]
    obtain ⟨p, c, rfl, _⟩ := hw.form
    rfl
theorem FilesAt.of_own {w w' : World} {g cap base : Nat} {l : List Fl} {v : Value} (h : FilesAt w g cap l) (hb : Below w.heap.size w w') (ho : w'.ownsRow base 97 2 v l.length (filCells w g l.length)) (h0 : 0 < l.length) :
    ∃ g' cap', v = .slice (some ⟨g', 0, none⟩) l.length cap' ∧ base ≤ g' ∧ FilesAt w' g' cap' l := by
  rcases ho.2 with ⟨_, hn⟩ | ⟨g', cap', cur, hv, hb', hg, h3, h4, h5, h6⟩
  · omega
  · subst hv
    have hc := fun j hj => World.ownsRow.cellAt (w := w') (base := base) (e := 97) (size := 2) (g := g') (cap := cap') (n := l.length) (xs := filCells w g l.length) ho j hj
    refine ⟨g', cap', rfl, hb', ⟨⟨cur, hg, h5⟩, h4, h3, fun i hi => ?_, fun i hi => ?_⟩⟩
    · rw [hc _ (by omega), filCells_get h _ (by omega)]; exact h.safe i hi
    · obtain ⟨u, hu, hw⟩ := h.ws i hi
      exact ⟨u, by rw [hc _ (by omega), filCells_get h _ (by omega)]; exact hu, hw.below hb⟩
theorem infoInt : (Tryz.prog.info? 3).map (fun i => (i.zero, i.size, i.bytes)) = some (some (.int .i64 0), 1, 8) := by kernel_rfl
theorem infoInts : (Tryz.prog.info? 34).map (fun i => (i.zero, i.size, i.bytes)) = some (some (.slice none 0 0), 1, 24) := by kernel_rfl
theorem makeI (u : World) (n : Nat) (hn : n ≤ 1048576) : (Instr.makeSlice 34 (.int .i64 (n : Int)) (.int .i64 (n : Int))).run Tryz.prog u = .ok (.slice (some ⟨u.heap.size, 0, none⟩) n n) (u.alloc (.cells (madeCells #[.int .i64 0] n) 3)) := by
  obtain ⟨i0, hi0, hz0, hz1, hz2⟩ := info_parts infoInt
  have h := run_make (P := Tryz.prog) u 34 3 i0 (.int .i64 0) Tryz.underlying34 hi0 hz0 .i64 .i64 (n : Int) (n : Int) (by omega) (by omega) (by rw [hz2]; omega) (by omega)
  rw [hz1] at h
  simpa [Value.cells] using h
theorem makeII (u : World) (n : Nat) (hn : n ≤ 1048576) : (Instr.makeSlice 23 (.int .i64 (n : Int)) (.int .i64 (n : Int))).run Tryz.prog u = .ok (.slice (some ⟨u.heap.size, 0, none⟩) n n) (u.alloc (.cells (madeCells #[.slice none 0 0] n) 34)) := by
  obtain ⟨i0, hi0, hz0, hz1, hz2⟩ := info_parts infoInts
  have h := run_make (P := Tryz.prog) u 23 34 i0 (.slice none 0 0) Tryz.underlying23 hi0 hz0 .i64 .i64 (n : Int) (n : Int) (by omega) (by omega) (by rw [hz2]; omega) (by omega)
  rw [hz1] at h
  simpa [Value.cells] using h
theorem size_made1 (z : Value) (n : Nat) : (madeCells #[z] n).size = n := by simp [madeCells]
/-- Ints in a block of their own from base on. -/
def WIb (w : World) (base : Nat) (v : Value) (zs : List Int) : Prop := w.ownsRow base 3 1 v (zs.map (Value.int .i64)).length (zs.map (Value.int .i64))
theorem row_base {w : World} {base e size n : Nat} {v : Value} {xs : List Value} (h : w.ownsRow base e size v n xs) {B : Nat} (hB : B ≤ base) : w.ownsRow B e size v n xs :=
  ⟨h.1, h.2.imp id (fun ⟨g, cap, cur, e, hh, r⟩ => ⟨g, cap, cur, e, Nat.le_trans hB hh, r⟩)⟩
theorem WIb.wi {w : World} {base : Nat} {v : Value} {zs : List Int} (h : WIb w base v zs) (hB : Avoid.B ≤ base) : WI w v zs := ⟨row_base h (Nat.zero_le _), fun k hk hS => by have h2 := World.ownsRow.lt h k hk; have h3 := Avoid.lt k hS; omega⟩
theorem row_keep {S : Nat → Prop} {w w' : World} {base T n : Nat} {v : Value} {xs : List Value} (h : w.ownsRow base T 1 v n xs) (hc : Chg S w w') (hm : ∀ k, k < w.heap.size → base ≤ k → S k → ∀ cur fr, w.heap[k]? ≠ some (.cells cur T fr)) : w'.ownsRow base T 1 v n xs := by
  refine ⟨h.1, ?_⟩
  rcases h.2 with h1 | ⟨g, cap, cur, hv, hb, hg, h3, h4, h5, h6⟩
  · exact .inl h1
  · have hlt : g < w.heap.size := (Array.getElem?_eq_some_iff.1 hg).1
    exact .inr ⟨g, cap, cur, hv, hb, (hc.block g hlt (fun hS => hm g hlt hb hS _ _ hg)).trans hg, h3, h4, h5, h6⟩
/-- Choices in blocks of their own, from base on. -/
def WCsB (w : World) (base : Nat) (v : Value) (css : List (List Int)) : Prop :=
  ∃ us : List Value, us.length = css.length ∧ w.ownsRow base 34 1 v us.length us ∧ ∀ i, i < css.length → WIb w base (us.getD i (.slice none 0 0)) (css.getD i [])
theorem WCsB.wcs {w : World} {base : Nat} {v : Value} {css : List (List Int)} (h : WCsB w base v css) (hB : Avoid.B ≤ base) : WCs w v css := by
  obtain ⟨us, h1, h2, h3⟩ := h
  exact ⟨us, h1, ⟨row_base h2 (Nat.zero_le _), fun k hk hS => by have h4 := World.ownsRow.lt h2 k hk; have h5 := Avoid.lt k hS; omega⟩, fun i hi => (h3 i hi).wi hB⟩
/-- They stand where what turns lies below. -/
theorem WCsB.keep {S : Nat → Prop} {w w' : World} {base : Nat} {v : Value} {css : List (List Int)} (h : WCsB w base v css) (hc : Chg S w w') (hS : ∀ k, base ≤ k → ¬ S k) : WCsB w' base v css := by
  obtain ⟨us, h1, h2, h3⟩ := h
  exact ⟨us, h1, row_keep h2 hc (fun k _ hb hk => absurd hk (hS k hb)), fun i hi => row_keep (h3 i hi) hc (fun k _ hb hk => absurd hk (hS k hb))⟩
/-- Own choices, of which the first i are laid. -/
structure OwnC (w : World) (base gO n : Nat) (css : List (List Int)) (i : Nat) : Prop where
  blk : ∃ us : List Value, us.length = n ∧ w.heap[gO]? = some (.cells us.toArray 34 (0, 0)) ∧ (∀ j, j < i → WIb w base (us.getD j (.slice none 0 0)) (css.getD j []))
  le : base ≤ gO
theorem OwnC.wcsB {w : World} {base gO : Nat} {css : List (List Int)} (h : OwnC w base gO css.length css css.length) (hm : css.length ≤ maxLen) : WCsB w base (.slice (some ⟨gO, 0, none⟩) css.length css.length) css := by
  obtain ⟨us, hl, hb, hi⟩ := h.blk
  refine ⟨us, hl, ?_, hi⟩
  refine ⟨by omega, .inr ⟨gO, css.length, us.toArray, by rw [hl], h.le, hb, by omega, hm, by simp [hl], ?_⟩⟩
  rw [Nat.mul_one, hl]
  simp [← hl]
set_option maxHeartbeats 400000 in
theorem armDead {b g cap : Nat} {D : Dk} {w : World} (h : IsDisk w b g cap D) (hd : D.dead = true) (n : Int) (cv : Value) :
    Calls Tryz.prog 13 #[.pointer (some ⟨b, 0, none⟩), .int .i64 n, cv] w fun e w' => e = .returned (.int .i64 2) ∧ w = w' := by
  have h1 := h.cells.2.2.2
  rw [hd] at h1
  clear h hd
  go_enter Tryz.func13, Tryz.ntmps13
  go_wp2_with fail
  go_ret
  exact ⟨rfl, rfl⟩
set_option maxHeartbeats 400000 in
theorem armNeg {b g cap : Nat} {D : Dk} {w : World} (h : IsDisk w b g cap D) (hd : D.dead = false) (n : Int) (hn : n < 0) (cv : Value) :
    Calls Tryz.prog 13 #[.pointer (some ⟨b, 0, none⟩), .int .i64 n, cv] w fun e w' => e = .returned (.int .i64 1) ∧ w = w' := by
  have h1 := h.cells.2.2.2
  rw [hd] at h1
  clear h hd
  go_enter Tryz.func13, Tryz.ntmps13
  go_wp2_with fail
  go_ret
  exact ⟨rfl, rfl⟩
/-- copy of ints into a block just made. -/
theorem wpList_copy_ints {ops : Array Oper} {rest : List Oper} {o : Oper} {a : Act} {w : World} {Q : Exit → Act → World → Prop} (hgd : o.guard = none) (d s : Operand)
    (ho : o.op = .call { callee := .builtin .copy, args := #[d, s], argTypes := #[34, 34] }) (g L qc : Nat) (q : Option Addr) (cs : List Int) (hL : cs.length = L)
    (hd : a.eval d = .slice (some ⟨g, 0, none⟩) L L) (hs : a.eval s = .slice q L qc) (hg : w.heap[g]? = some (.cells (madeCells #[.int .i64 0] L) 3 (0, 0)))
    (hsrc : ∀ i, i < cs.length → ∃ b off, q = some ⟨b, off, none⟩ ∧ w.cell? ⟨b, off + i, none⟩ = some (.int .i64 (cs.getD i 0)))
    (h : ∀ w', w'.heap[g]? = some (.cells (cs.map (Value.int .i64)).toArray 3 (0, 0)) → w.grownBy w' (some g) → w'.heap.size = w.heap.size → wpList Tryz.prog ops Q rest (a.put o.dst (goInt L)) w') : wpList Tryz.prog ops Q (o :: rest) a w := by
  have hinf : (Tryz.prog.info? 3).map (·.size) = some 1 := by kernel_rfl
  by_cases h0 : L = 0
  · have hc : cs = [] := List.eq_nil_of_length_eq_zero (by omega)
    have hfin := h w (by rw [hg, hc, h0]; simp [madeCells]) ⟨rfl, rfl, rfl, Nat.le_refl _, fun _ _ _ => rfl⟩ rfl
    rw [h0] at hd hs hfin
    exact wpList_copy_nothing hgd d s 34 34 ho 3 Tryz.underlying34 hinf _ _ _ _ _ _ hd hs rfl hfin
  · obtain ⟨b, off, hq, _⟩ := hsrc 0 (by omega)
    subst hq
    have hlen : (cs.map (Value.int .i64)).length = L := by rw [List.length_map, hL]
    have hmin : Nat.min L L = L := Nat.min_self L
    have hfin := h (w.setRow g (((madeCells #[.int .i64 0] L).toList.take 0 ++ (cs.map (Value.int .i64) ++ (madeCells #[.int .i64 0] L).toList.drop (0 + (cs.map (Value.int .i64)).length))).toArray)) ?_ ⟨rfl, rfl, rfl, by simp, fun k _ hk => setRow_other w g k _ (fun e => hk (by rw [e]))⟩ (by simp)
    · refine wpList_copy_own hgd d s 34 34 ho 3 Tryz.underlying34 hinf g 0 L L ⟨b, off, none⟩ L qc hd hs _ _ hg (cs.map (Value.int .i64)) (by rw [hlen, hmin]) ?_ (by rw [hlen, size_made1]; omega) ?_ ?_
      · intro j v hv
        have hj : j < cs.length := by have := (List.getElem?_eq_some_iff.1 hv).1; rw [hlen] at this; omega
        obtain ⟨b', off', hq', hc⟩ := hsrc j hj
        have h1 : b = b' := congrArg (fun x : Option Addr => match x with | some a => a.block | none => 0) hq'
        have h2 : off = off' := congrArg (fun x : Option Addr => match x with | some a => a.off | none => 0) hq'
        subst h1
        subst h2
        rw [Addr.add_lit, hc, ← hv, List.getElem?_map, List.getElem?_eq_getElem hj, List.getD_eq_getElem?_getD, List.getElem?_eq_getElem hj]
        rfl
      · intro v hv
        obtain ⟨z, _, rfl⟩ := List.mem_map.1 hv
        rfl
      · rw [hlen]
        rw [hlen] at hfin
        exact hfin
    · rw [setRow_heap w g _ _ _ _ hg]
      refine congrArg (fun l : List Value => some (Obj.cells l.toArray 3 (0, 0))) ?_
      rw [List.take_zero, List.nil_append, List.drop_eq_nil_of_le (by rw [hlen, Array.length_toList, size_made1]; omega), List.append_nil]
set_option maxRecDepth 100000 in
set_option maxHeartbeats 1600000 in
theorem armWB {b g cap : Nat} {D : Dk} {w : World} (h : IsDisk w b g cap D) (hd : D.dead = false) (n : Nat) (hn : n ≤ 9223372036854775807) (cv : Value) (css : List (List Int)) (hcs : Rss w cv css) (hcl : css.length ≤ 1048576) (hcm : ∀ i, (css.getD i []).length ≤ 1048576) :
    Calls Tryz.prog 13 #[.pointer (some ⟨b, 0, none⟩), .int .i64 (n : Nat), cv] w fun e w' => e = .returned (.int .i64 0) ∧ IsDisk w' b g cap ⟨D.l, n, css, D.dead⟩ ∧ Chg (fun k => k = b) w w' ∧ ∃ cv, w'.cell? ⟨b, 2, none⟩ = some cv ∧ WCsB w' w.heap.size cv css := by
  have h1 := h.cells.2.2.2
  rw [hd] at h1
  have H := Lib.hid h
  have hbl := h.lt
  obtain ⟨p, pc, rfl, hcell⟩ := hcs
  have HCELL := Lib.hid hcell
  have HCM := Lib.hid hcm
  obtain ⟨N, hN⟩ : ∃ n, n = css.length := ⟨_, rfl⟩
  rw [← hN] at hcl ⊢
  have HN := Lib.hid hN
  have hm2 := fun u => makeII u N (by omega)
  clear h hd hcell hcm hN
  go_enter Tryz.func13, Tryz.ntmps13
  go_wp2_with fail
  clear h1 hm2
  obtain ⟨W, hW⟩ : ∃ W, W = w.alloc (.cells (madeCells #[.slice none 0 0] N) 34) := ⟨_, rfl⟩
  have hblk : W.heap[w.heap.size]? = some (.cells (madeCells #[.slice none 0 0] N) 34 (0, 0)) := by rw [hW]; exact heap_alloc_new w _
  have hbw : Below w.heap.size w W := by rw [hW]; exact (Below.refl _ _).alloc (Nat.le_refl _) _
  rw [← hW]
  have HO : Hid (OwnC W w.heap.size w.heap.size N css 0) := ⟨⟨(madeCells #[.slice none 0 0] N).toList, by rw [Array.length_toList, size_made1], by rw [Array.toArray_toList]; exact hblk, fun j hj => by omega⟩, Nat.le_refl _⟩
  have HB := Lib.hid hbw
  have hWs : w.heap.size + 1 ≤ W.heap.size := by rw [hW]; simp
  clear hW hblk hbw
  go_loopw [21] (fun vi wr => ∃ i : Nat, i ≤ N ∧ vi = .int .i64 (i : Nat) ∧ OwnC wr w.heap.size w.heap.size N css i ∧ Below w.heap.size w wr ∧ w.heap.size + 1 ≤ wr.heap.size) (fun vi _ => (N - intOf vi).toNat)
  case atStart => exact ⟨0, by omega, rfl, HO.out, HB.out, hWs⟩
  case round =>
    obtain ⟨i, hi, rfl, ho, hb, hws⟩ := hrel
    have HO2 := Lib.hid ho
    have HB2 := Lib.hid hb
    by_cases hlt : i < N
    · obtain ⟨sb, so, u, hp, hx, hu⟩ := HCELL.out i (by rw [← HN.out]; exact hlt)
      subst hp
      have hxm := HCM.out i
      obtain ⟨cs, hcs⟩ : ∃ cs, cs = css.getD i [] := ⟨_, rfl⟩
      rw [← hcs] at hu hxm
      obtain ⟨q, qc, rfl, hq⟩ := hu.form
      obtain ⟨L, hL⟩ : ∃ L, L = cs.length := ⟨_, rfl⟩
      rw [← hL] at hx hxm
      have hxw : wr.cell? ⟨sb, so + i, none⟩ = some (.slice q L qc) := (hb.cell (block_lt_of_cell hx)).trans hx
      have hm1 := fun u => makeI u L hxm
      obtain ⟨us, hul, hub, hui⟩ := ho.blk
      have k0 : ∀ o, (wr.alloc o).cell? ⟨w.heap.size, i, none⟩ = us[i]? := fun o => by
        rw [World.cell?_alloc_lt _ _ _ (by show w.heap.size < _; omega)]
        rw [cell_of_row wr w.heap.size i _ _ _ hub]; simp
      obtain ⟨z, hz⟩ : ∃ z, us[i]? = some z := ⟨us[i]'(by omega), List.getElem?_eq_getElem (by omega)⟩
      have k1 : (wr.alloc (.cells (madeCells #[.int .i64 0] L) 3)).cell? ⟨w.heap.size, i, none⟩ = some z := by rw [k0, hz]
      have f0 : (wr.alloc (.cells (madeCells #[.int .i64 0] L) 3)).frozen? ⟨w.heap.size, i, none⟩ = false := by
        rw [World.frozen?_alloc_old _ _ _ (by show w.heap.size ≠ _; omega)]
        exact frozen_of_row wr w.heap.size i _ _ hub
      have HCS := Lib.hid hcs
      have HL := Lib.hid hL
      have HQ := Lib.hid hq
      have HU := Lib.hid (And.intro hul (And.intro hub hui))
      obtain ⟨W2, hW2⟩ : ∃ W2, W2 = (wr.alloc (.cells (madeCells #[.int .i64 0] L) 3)).setCell ⟨w.heap.size, i, none⟩ (.slice (some ⟨wr.heap.size, 0, none⟩) L L) := ⟨_, rfl⟩
      have h2g : W2.heap[wr.heap.size]? = some (.cells (madeCells #[.int .i64 0] L) 3 (0, 0)) := by
        rw [hW2, Below.heap_setCell _ _ _ _ (by show wr.heap.size ≠ w.heap.size; omega)]; exact heap_alloc_new wr _
      have h2o : W2.heap[w.heap.size]? = some (.cells (us.toArray.setIfInBounds i (.slice (some ⟨wr.heap.size, 0, none⟩) L L)) 34 (0, 0)) := by
        rw [hW2]; exact setCell_blk _ _ _ _ ((heap_lt (by omega)).trans hub)
      have h2c : Chg (fun k => k = w.heap.size) wr W2 := by
        rw [hW2]
        exact (Chg.of_below _ ((Below.refl _ _).alloc (Nat.le_refl _) _)).trans (Chg.setCell (fun k => k = w.heap.size) _ rfl _)
      have h2s : W2.heap.size = wr.heap.size + 1 := by rw [hW2]; simp [World.setCell]
      have hsrc : ∀ i, i < cs.length → ∃ b off, q = some ⟨b, off, none⟩ ∧ W2.cell? ⟨b, off + i, none⟩ = some (.int .i64 (cs.getD i 0)) := fun i hi => by
        obtain ⟨b', o', e, hc⟩ := hq i hi
        have hlt := block_lt_of_cell hc
        exact ⟨b', o', e, h2c.cell (by show ¬ b' = w.heap.size; have : b' < w.heap.size := hlt; omega) ((hb.cell hlt).trans hc)⟩
      have H2 := Lib.hid (And.intro hW2 (And.intro h2g (And.intro h2o (And.intro h2c (And.intro h2s hsrc)))))
      clear hx hu hcs hL hq ho hb hul hub hui k0 hz hW2 h2g h2o h2c h2s hsrc
      go_wp2_with (first | (with_reducible refine wpList_copy_ints (o := ⟨some 37, _, _, _, _, _⟩) rfl _ _ rfl wr.heap.size L qc q cs HL.out.symm ?ca ?cb ?cc ?cd ?_))
      case ca => rfl
      case cb => rfl
      case cc => rw [← H2.out.1]; exact H2.out.2.1
      case cd => rw [← H2.out.1]; exact H2.out.2.2.2.2.2
      rw [← H2.out.1]
      intro w5 h5 hg5 hs5
      have hne : wr.heap.size ≠ w.heap.size := by omega
      have hWI : WIb w5 w.heap.size (.slice (some ⟨wr.heap.size, 0, none⟩) L L) cs := by
        refine ⟨by omega, .inr ⟨wr.heap.size, L, _, ?_, by omega, h5, ?_, by unfold maxLen; omega, ?_, ?_⟩⟩
        · rw [List.length_map, ← HL.out]
        · rw [List.length_map, ← HL.out]; exact Nat.le_refl _
        · simp [← HL.out]
        · simp only [Nat.mul_one, List.length_map]
          exact List.take_of_length_le (by rw [List.length_map]; exact Nat.le_refl _)
      have hch : Chg (fun k => k = w.heap.size ∨ k = wr.heap.size) wr w5 := (H2.out.2.2.2.1.mono (fun k _ h => .inl h)).trans (Chg.of_grown hg5 (.inr rfl))
      have ho5 : OwnC w5 w.heap.size w.heap.size N css (i + 1) := by
        refine ⟨⟨us.set i (.slice (some ⟨wr.heap.size, 0, none⟩) L L), by rw [List.length_set]; exact HU.out.1, ?_, fun j hj => ?_⟩, Nat.le_refl _⟩
        · rw [hg5.block w.heap.size (by rw [H2.out.2.2.2.2.1]; omega) (by intro e; injection e with e; exact hne e.symm), H2.out.2.2.1]
          simp
        · by_cases e : i = j
          · subst e
            rw [getD_set_self _ _ _ _ (by rw [HU.out.1]; exact hlt), ← HCS.out]
            exact hWI
          · rw [getD_set_ne _ _ _ _ _ e]
            refine row_keep (HU.out.2.2 j (by omega)) hch ?_
            intro k hk _ hS cur fr hh
            rcases hS with rfl | rfl
            · rw [HU.out.2.1] at hh
              injection hh with hh
              injection hh with _ hT _
              exact absurd hT (by decide)
            · omega
      have HF := Lib.hid (And.intro ho5 (And.intro (HB2.out.trans (hch.below (B := w.heap.size) (by omega) (fun k hk hS => by rcases hS with rfl | rfl <;> omega))) (show w.heap.size + 1 ≤ w5.heap.size by rw [hs5]; have := H2.out.2.2.2.2.1; omega)))
      clear h5 hg5 hs5 hWI hch ho5 k1 f0 hxw
      go_wp2_with fail
      exact ⟨⟨i + 1, by omega, rfl, HF.out.1, HF.out.2.1, HF.out.2.2⟩, by simp [intOf]; omega⟩
    · have hie : i = N := by omega
      rw [hie, HN.out] at ho
      have hwcb := ho.wcsB (by rw [← HN.out]; unfold maxLen; omega)
      rw [← HN.out] at hwcb
      have hwc := hwcb.wcs H.out.gb
      have hid := H.out.below hb
      have k1 := hid.cells.2.1
      obtain ⟨cv, k2, _⟩ := hid.cells.2.2.1
      have f1 := hid.free 1
      have f2 := hid.free 2
      have hid1 := hid.setArmed n
      have hwc1 := hwc.keep (Chg.setCell (fun k => k = b) wr (j := 1) rfl (.int .i64 (n : Nat))) (by obtain ⟨_, hbb, _⟩ := hid.blk; exact muts_blk hbb)
      have hid2 := hid1.setCh hwc1
      have hcc := (Chg.setCell (fun k => k = b) wr (j := 1) rfl (.int .i64 (n : Nat))).trans (Chg.setCell (fun k => k = b) _ (j := 2) rfl (.slice (some ⟨w.heap.size, 0, none⟩) N N))
      have hwf := hwcb.keep hcc (fun k hk e => by subst e; omega)
      have hcv : ((wr.setCell ⟨b, 1, none⟩ (.int .i64 (n : Nat))).setCell ⟨b, 2, none⟩ (.slice (some ⟨w.heap.size, 0, none⟩) N N)).cell? ⟨b, 2, none⟩ = some (.slice (some ⟨w.heap.size, 0, none⟩) N N) :=
        World.cell?_setCell_same _ _ _ (by rw [World.cell?_setCell_other _ _ _ _ (by intro e; injection e with _ e; omega)]; exact k2)
      have hex : ∃ cv, ((wr.setCell ⟨b, 1, none⟩ (.int .i64 (n : Nat))).setCell ⟨b, 2, none⟩ (.slice (some ⟨w.heap.size, 0, none⟩) N N)).cell? ⟨b, 2, none⟩ = some cv ∧ WCsB ((wr.setCell ⟨b, 1, none⟩ (.int .i64 (n : Nat))).setCell ⟨b, 2, none⟩ (.slice (some ⟨w.heap.size, 0, none⟩) N N)) w.heap.size cv css := ⟨_, hcv, hwf⟩
      have R := Lib.hid (And.intro hid2 (And.intro ((Chg.of_below (fun k => k = b) hb).trans hcc) hex))
      clear ho hwc hid hid1 hwc1 hid2 hb hie HO2 HB2 hcc hwf hcv hwcb hex
      go_wp2_with fail
      go_ret
      exact ⟨rfl, R.out⟩
theorem armW {b g cap : Nat} {D : Dk} {w : World} (h : IsDisk w b g cap D) (hd : D.dead = false) (n : Nat) (hn : n ≤ 9223372036854775807) (cv : Value) (css : List (List Int)) (hcs : Rss w cv css) (hcl : css.length ≤ 1048576) (hcm : ∀ i, (css.getD i []).length ≤ 1048576) :
    Calls Tryz.prog 13 #[.pointer (some ⟨b, 0, none⟩), .int .i64 (n : Nat), cv] w fun e w' => e = .returned (.int .i64 0) ∧ IsDisk w' b g cap ⟨D.l, n, css, D.dead⟩ ∧ Chg (fun k => k = b) w w' :=
  (armWB h hd n hn cv css hcs hcl hcm).mono fun e w' ⟨h1, h2, h3, _⟩ => ⟨h1, h2, h3⟩
end Go.Proofs.YtilpbjcbffbjeaaGreatDoor
namespace Go.Proofs.YtilpbjcbffbjeaaGreatDoor
set_option linter.unusedVariables false
open Go.RowKit
theorem tmod_emod (n : Int) (m : Nat) (hm : 0 < m) : n % (m : Int) = if n.tmod m < 0 then n.tmod m + m else n.tmod m := by
  have h1 : -(m : Int) < n.tmod m := by have := Int.lt_tmod_of_pos n (show (0 : Int) < m by omega); omega
  have h2 : n.tmod m < (m : Int) := Int.tmod_lt_of_pos n (by omega)
  have h : n % (m : Int) = (n.tmod m) % (m : Int) := by
    conv => lhs; rw [← Int.mul_tdiv_add_tmod n m]
    rw [Int.mul_add_emod_self_left]
  rw [h]
  split
  · rw [← Int.add_emod_right, Int.emod_eq_of_lt (by omega) (by omega)]
  · rw [Int.emod_eq_of_lt (by omega) (by omega)]
theorem toList_beq (s t : ByteArray) : (s.toList == t.toList) = decide (s = t) := by
  by_cases h : s = t
  · subst h; simp
  · rw [decide_eq_false h, beq_eq_false_iff_ne]
    intro e
    rw [ByteArray.toList_eq, ByteArray.toList_eq] at e
    exact h (ByteArray.ext (Array.toList_inj.1 e))
theorem getD_ext (ss ts : List ByteArray) (hl : ss.length = ts.length) (h : ∀ i, i < ss.length → ss.getD i ⟨#[]⟩ = ts.getD i ⟨#[]⟩) : ss = ts := by
  refine List.ext_getElem hl fun i h1 h2 => ?_
  have := h i h1
  rwa [List.getD_eq_getElem?_getD, List.getElem?_eq_getElem h1, List.getD_eq_getElem?_getD, List.getElem?_eq_getElem h2] at this
set_option maxHeartbeats 400000 in
theorem sameLen (v u : Value) (ss ts : List ByteArray) (w : World) (h : Strs w v ss) (k : Strs w u ts) (hl : ss.length ≠ ts.length) (h1 : ss.length ≤ 140737488355328) (h2 : ts.length ≤ 140737488355328) :
    Calls Tryz.prog 24 #[v, u] w fun e w' => e = .returned (.bool false) ∧ Below w.heap.size w w' := by
  obtain ⟨p, c, rfl, _⟩ := h.form
  obtain ⟨q, d, rfl, _⟩ := k.form
  obtain ⟨n, hn⟩ : ∃ n, n = ss.length := ⟨_, rfl⟩
  obtain ⟨m, hm⟩ : ∃ m, m = ts.length := ⟨_, rfl⟩
  rw [← hn, ← hm] at hl
  rw [← hn] at h1 ⊢
  rw [← hm] at h2 ⊢
  have h0 : ((n : Int) == (m : Int)) = false := by rw [beq_eq_false_iff_ne]; omega
  clear h k hn hm
  go_enter Tryz.func24, Tryz.ntmps24
  go_wp2_with fail
  go_ret
  exact ⟨rfl, Below.refl _ _⟩
set_option maxHeartbeats 400000 in
theorem sameEq (v u : Value) (ss ts : List ByteArray) (w : World) (h : Strs w v ss) (k : Strs w u ts) (hl : ss.length = ts.length) (h1 : ss.length ≤ 1048576) :
    Calls Tryz.prog 24 #[v, u] w fun e w' => e = .returned (.bool (decide (ss = ts))) ∧ Below w.heap.size w w' := by
  obtain ⟨p, c, rfl, hc⟩ := h.form
  obtain ⟨q, d, rfl, hd⟩ := k.form
  obtain ⟨n, hn⟩ : ∃ n, n = ss.length := ⟨_, rfl⟩
  rw [← hl]
  rw [← hn] at h1 ⊢
  have HL := Lib.hid hl
  have HN := Lib.hid hn
  have HC := Lib.hid hc
  have HD := Lib.hid hd
  clear h k hn hl hc hd
  go_enter Tryz.func24, Tryz.ntmps24
  go_wp2_with fail
  go_loopw [5] (fun vi wr => ∃ i : Nat, i ≤ n ∧ vi = .int .i64 (i : Nat) ∧ Below w.heap.size w wr ∧ (∀ j, j < i → ss.getD j ⟨#[]⟩ = ts.getD j ⟨#[]⟩)) (fun vi _ => (n - intOf vi).toNat)
  case atStart => exact ⟨0, by omega, rfl, Below.refl _ _, fun j hj => by omega⟩
  case round =>
    obtain ⟨i, hi, rfl, hb, hs⟩ := hrel
    have HB := Lib.hid hb
    have HS := Lib.hid hs
    by_cases hlt : i < n
    · obtain ⟨b1, o1, rfl, x1⟩ := HC.out i (by rw [← HN.out]; exact hlt)
      obtain ⟨b2, o2, rfl, x2⟩ := HD.out i (by rw [← HL.out, ← HN.out]; exact hlt)
      have y1 := (hb.cell (block_lt_of_cell x1)).trans x1
      have y2 := (hb.cell (block_lt_of_cell x2)).trans x2
      rw [show (ByteArray.empty : ByteArray) = ⟨#[]⟩ from rfl] at y1 y2
      obtain ⟨s, hs1⟩ : ∃ s, s = ss.getD i ⟨#[]⟩ := ⟨_, rfl⟩
      obtain ⟨t, ht1⟩ : ∃ t, t = ts.getD i ⟨#[]⟩ := ⟨_, rfl⟩
      rw [← hs1] at y1
      rw [← ht1] at y2
      have S1 := Lib.hid hs1
      have T1 := Lib.hid ht1
      clear hb hs x1 x2 hs1 ht1
      by_cases hst : s = t
      · have hsd : (s.toList == t.toList) = true := by rw [toList_beq]; exact decide_eq_true hst
        go_wp2_with fail
        go_region
        go_wp2_with fail
        refine ⟨⟨i + 1, by omega, rfl, HB.out.drew, fun j hj => ?_⟩, by simp [intOf]; omega⟩
        by_cases e : j = i
        · subst e; rw [← S1.out, ← T1.out]; exact hst
        · exact HS.out j (by omega)
      · have hsd : (s.toList == t.toList) = false := by rw [toList_beq]; exact decide_eq_false hst
        go_wp2_with fail
        go_region
        go_wp2_with fail
        go_ret
        refine ⟨?_, HB.out.drew⟩
        have hne : ss ≠ ts := fun e => hst (by rw [S1.out, T1.out, e])
        rw [decide_eq_false hne]
        rfl
    · have hie : i = n := by omega
      go_wp2_with fail
      go_ret
      refine ⟨?_, HB.out⟩
      rw [decide_eq_true (getD_ext ss ts HL.out (fun j hj => HS.out j (by rw [hie, HN.out]; exact hj)))]
      rfl
theorem sameW (v u : Value) (ss ts : List ByteArray) (w : World) (h : Strs w v ss) (k : Strs w u ts) (h1 : ss.length ≤ 1048576) (h2 : ts.length ≤ 1048576) :
    Calls Tryz.prog 24 #[v, u] w fun e w' => e = .returned (.bool (decide (ss = ts))) ∧ Below w.heap.size w w' := by
  by_cases hl : ss.length = ts.length
  · exact sameEq v u ss ts w h k hl h1
  · rw [decide_eq_false (fun e => hl (by rw [e]))]
    exact sameLen v u ss ts w h k hl (by omega) (by omega)
/-- New, whatever came in. -/
theorem newW {w : World} (v : Value) (ss : List ByteArray) (h : Strs w v ss) (hl : ss.length ≤ 1048576) (hm : ∀ i, i < ss.length → (ss.getD i ⟨#[]⟩).size ≤ 1048576) :
    Calls Tryz.prog 10 #[v] w fun e w' => Below w.heap.size w w' ∧
      ((newErr ss ≠ 0 ∧ e = .returned (.tuple #[.pointer none, .int .i64 (newErr ss)])) ∨
       (newErr ss = 0 ∧ ∃ b g cap, e = .returned (.tuple #[.pointer (some ⟨b, 0, none⟩), .int .i64 0]) ∧ IsDisk w' b g cap (newDk ss) ∧ w.heap.size ≤ b ∧ w.heap.size ≤ g)) := by
  by_cases hb : ss.length = 0 ∨ 32 < ss.length
  · have e0 : newErr ss = 160 := by unfold newErr; rw [if_pos hb]
    refine (newBad v ss h hb (by omega)).mono fun e w' ⟨h1, h2⟩ => ⟨h2, .inl ⟨by rw [e0]; decide, by rw [e0]; exact h1⟩⟩
  · refine (newGood v ss h (by omega) (by omega) (fun i hi => by have := hm i hi; omega)).mono fun e w' ⟨h2, h1⟩ => ⟨h2, ?_⟩
    rcases h1 with ⟨h3, h4⟩ | ⟨h3, h4⟩
    · have e0 : newErr ss = 161 := by unfold newErr; rw [if_neg hb, if_pos h3]
      exact .inl ⟨by rw [e0]; decide, by rw [e0]; exact h4⟩
    · have e0 : newErr ss = 0 := by unfold newErr; rw [if_neg hb, h3]; rfl
      exact .inr ⟨e0, h4⟩
/-- What a good New has seen. -/
theorem newErr_good {ss : List ByteArray} (h : newErr ss = 0) : 0 < ss.length ∧ ss.length ≤ 32 ∧ ∀ i, i < ss.length → (ss.getD i ⟨#[]⟩).size ≤ 262144 := by
  unfold newErr at h
  split at h
  · exact absurd h (by decide)
  split at h
  · exact absurd h (by decide)
  rename_i h1 h2
  refine ⟨by omega, by omega, fun i hi => ?_⟩
  rw [List.getD_eq_getElem?_getD, List.getElem?_eq_getElem hi]
  rw [Bool.not_eq_true, List.any_eq_false] at h2
  have := h2 _ (List.getElem_mem hi)
  simpa using this
theorem newDk_ok {ss : List ByteArray} (h : newErr ss = 0) : DOk (newDk ss) := by
  obtain ⟨h1, h2, h3⟩ := newErr_good h
  have hgd : ∀ i, i < ss.length → (newDk ss).l.getD i Fl.zero = ⟨ss.getD i ⟨#[]⟩, []⟩ := fun i hi => by
    show (ss.map fun s => (⟨s, []⟩ : Fl)).getD i Fl.zero = _
    rw [List.getD_eq_getElem?_getD, List.getElem?_map, List.getElem?_eq_getElem hi, List.getD_eq_getElem?_getD, List.getElem?_eq_getElem hi]; rfl
  have hl : (newDk ss).l.length = ss.length := List.length_map _
  refine ⟨by rw [hl]; exact h2, by rw [hl]; exact h1, fun i hi => ?_, fun i hi => ?_, Nat.zero_le _, fun i => Nat.zero_le _⟩
  · rw [hl] at hi; rw [hgd i hi, rd_safe]; exact h3 i hi
  · rw [hl] at hi; rw [hgd i hi]; exact Nat.zero_le _
end Go.Proofs.YtilpbjcbffbjeaaGreatDoor
namespace Go.Proofs.YtilpbjcbffbjeaaGreatDoor
open Go.RowKit
set_option linter.unusedSectionVars false
variable [Avoid]
/-- A call of a script. -/
structure Opv where
  on : Int
  kind : Int
  f : Int
  n : Int
  s : ByteArray
  ch : List (List Int)
def Opv.zero : Opv := ⟨0, 0, 0, 0, ⟨#[]⟩, []⟩
/-- What it does to its file, the power being there. -/
def flOp (o : Opv) (x : Fl) : Fl :=
  if o.kind = 0 then (if 262144 < (rd x).size + o.s.size then x else ⟨x.safe, x.ws ++ [o.s]⟩)
  else if o.kind = 1 then ⟨rd x, []⟩
  else if o.kind = 2 then (if 0 < x.ws.length ∨ o.n < 0 ∨ (x.safe.size : Int) < o.n then x else ⟨x.safe.extract 0 o.n.toNat, x.ws⟩)
  else x
def mkL (l : List Fl) (o : Opv) : List Fl := if 0 ≤ o.f ∧ o.f < l.length then l.set o.f.toNat (flOp o (l.getD o.f.toNat Fl.zero)) else l
theorem length_mkL (l : List Fl) (o : Opv) : (mkL l o).length = l.length := by unfold mkL; split <;> simp
/-- A disk whose power is there, with nothing armed. -/
def dk0 (l : List Fl) : Dk := ⟨l, 0, [], false⟩
theorem out_dk0 (l : List Fl) (f : Int) : (dk0 l).out f = false ↔ 0 ≤ f ∧ f < l.length := by
  unfold Dk.out
  rw [decide_eq_false_iff_not, show (dk0 l).l = l from rfl]
  omega
theorem set_self (l : List Fl) (f : Nat) : l.set f (l.getD f Fl.zero) = l := by
  by_cases h : f < l.length
  · rw [List.getD_eq_getElem?_getD, List.getElem?_eq_getElem h]; simp
  · rw [List.set_eq_of_length_le (by omega)]
theorem writeX_dk0 (l : List Fl) (o : Opv) (hk : o.kind = 0) : ((dk0 l).writeX o.f o.s).1 = dk0 (mkL l o) := by
  unfold Dk.writeX mkL
  rw [if_neg (show ¬ (dk0 l).dead = true from Bool.false_ne_true)]
  by_cases ho : (dk0 l).out o.f = true
  · rw [if_pos ho, if_neg (fun h => by rw [(out_dk0 l o.f).2 h] at ho; cases ho)]
  · rw [if_neg ho, if_pos ((out_dk0 l o.f).1 (by simpa using ho))]
    unfold flOp
    rw [if_pos hk]
    show (if 262144 < (rd (l.getD o.f.toNat Fl.zero)).size + o.s.size then _ else _ : Dk × Int).1 = _
    split
    · show dk0 l = _
      rw [set_self]
    · rfl
theorem syncX_dk0 (l : List Fl) (o : Opv) (hk : o.kind = 1) : ((dk0 l).syncX o.f).1 = dk0 (mkL l o) := by
  unfold Dk.syncX mkL
  rw [if_neg (show ¬ (dk0 l).dead = true from Bool.false_ne_true)]
  by_cases ho : (dk0 l).out o.f = true
  · rw [if_pos ho, if_neg (fun h => by rw [(out_dk0 l o.f).2 h] at ho; cases ho)]
  · rw [if_neg ho, if_pos ((out_dk0 l o.f).1 (by simpa using ho))]
    unfold flOp
    rw [if_neg (by rw [hk]; decide), if_pos hk]
    rfl
theorem cutX_dk0 (l : List Fl) (o : Opv) (hk : o.kind = 2) : ((dk0 l).cutX o.f o.n).1 = dk0 (mkL l o) := by
  unfold Dk.cutX mkL
  rw [if_neg (show ¬ (dk0 l).dead = true from Bool.false_ne_true)]
  by_cases ho : (dk0 l).out o.f = true
  · rw [if_pos ho, if_neg (fun h => by rw [(out_dk0 l o.f).2 h] at ho; cases ho)]
  · rw [if_neg ho, if_pos ((out_dk0 l o.f).1 (by simpa using ho))]
    have hfl : ∀ x, flOp o x = if 0 < x.ws.length ∨ o.n < 0 ∨ (x.safe.size : Int) < o.n then x else ⟨x.safe.extract 0 o.n.toNat, x.ws⟩ := fun x => by unfold flOp; rw [if_neg (by rw [hk]; decide), if_neg (by rw [hk]; decide), if_pos hk]
    rw [hfl]
    show (if 0 < (l.getD o.f.toNat Fl.zero).ws.length ∨ o.n < 0 ∨ ((l.getD o.f.toNat Fl.zero).safe.size : Int) < o.n then _ else _ : Dk × Int).1 = _
    split
    · show dk0 l = _
      rw [set_self]
    · rfl
theorem mkL_other (l : List Fl) (o : Opv) (h0 : o.kind ≠ 0) (h1 : o.kind ≠ 1) (h2 : o.kind ≠ 2) : mkL l o = l := by
  unfold mkL flOp
  rw [if_neg h0, if_neg h1, if_neg h2, set_self, ite_self]
/-- What a script keeps to. -/
structure MInv (l : List Fl) (m : Nat) : Prop where
  n : l.length ≤ 32
  pos : 0 < l.length
  size : ∀ f, f < l.length → (rd (l.getD f Fl.zero)).size ≤ 262144
  many : ∀ f, f < l.length → (l.getD f Fl.zero).ws.length ≤ m
theorem MInv.ok {l : List Fl} {n : Nat} (h : MInv l n) (hn : n ≤ 1099511627776) : DOk (dk0 l) := ⟨h.n, h.pos, h.size, fun f hf => Nat.le_trans (h.many f hf) hn, Nat.zero_le _, fun _ => Nat.zero_le _⟩
theorem flOp_ok (o : Opv) (x : Fl) (n : Nat) (h1 : (rd x).size ≤ 262144) (h2 : x.ws.length ≤ n) : (rd (flOp o x)).size ≤ 262144 ∧ (flOp o x).ws.length ≤ n + 1 := by
  unfold flOp
  split
  · split
    · exact ⟨h1, by omega⟩
    · rw [rd_put, List.length_append]
      exact ⟨by omega, by simp; omega⟩
  split
  · rw [rd_safe]; exact ⟨h1, Nat.zero_le _⟩
  split
  · split
    · exact ⟨h1, by omega⟩
    · rename_i hc
      refine ⟨?_, by dsimp only; omega⟩
      have h0 : x.ws = [] := List.eq_nil_of_length_eq_zero (by omega)
      rw [h0, rd_safe]
      rw [size_rd, h0] at h1
      rw [ByteArray.size_extract]
      omega
  · exact ⟨h1, by omega⟩
theorem MInv.step {l : List Fl} {n : Nat} (h : MInv l n) (o : Opv) : MInv (mkL l o) (n + 1) := by
  refine ⟨by rw [length_mkL]; exact h.n, by rw [length_mkL]; exact h.pos, fun f hf => ?_, fun f hf => ?_⟩
  all_goals
    rw [length_mkL] at hf
    have hx := flOp_ok o (l.getD f Fl.zero) n (h.size f hf) (h.many f hf)
    unfold mkL
    split
    · by_cases e : o.f.toNat = f
      · subst e; rw [getD_set_self _ _ _ _ hf]; first | exact hx.1 | exact hx.2
      · rw [getD_set_ne _ _ _ _ _ e]; first | exact h.size f hf | exact Nat.le_succ_of_le (h.many f hf)
    · first | exact h.size f hf | exact Nat.le_succ_of_le (h.many f hf)
/-- The files behind a script. -/
def mk (ss : List ByteArray) (os : List Opv) : List Fl := os.foldl mkL (ss.map fun s => ⟨s, []⟩)
theorem mk_snoc (ss : List ByteArray) (os : List Opv) (o : Opv) : mk ss (os ++ [o]) = mkL (mk ss os) o := by unfold mk; rw [List.foldl_append]; rfl
theorem mk_inv {ss : List ByteArray} (h : newErr ss = 0) (os : List Opv) : MInv (mk ss os) os.length := by
  have h0 := newDk_ok h
  suffices ∀ (os : List Opv) (l : List Fl) (n : Nat), MInv l n → MInv (os.foldl mkL l) (n + os.length) by
    have := this os (ss.map fun s => ⟨s, []⟩) 0 ⟨h0.n, h0.pos, h0.size, fun f hf => by
      have : f < ss.length := by rw [List.length_map] at hf; exact hf
      rw [List.getD_eq_getElem?_getD, List.getElem?_map, List.getElem?_eq_getElem this]; exact Nat.le_refl _⟩
    rw [Nat.zero_add] at this
    exact this
  intro os
  induction os with
  | nil => intro l n h; exact h
  | cons o os ih =>
    intro l n h
    have := ih (mkL l o) (n + 1) (h.step o)
    rw [List.length_cons, show n + (os.length + 1) = n + 1 + os.length by omega]
    exact this
theorem length_mk (ss : List ByteArray) (os : List Opv) : (mk ss os).length = ss.length := by
  suffices ∀ (os : List Opv) (l : List Fl), (os.foldl mkL l).length = l.length by unfold mk; rw [this, List.length_map]
  intro os
  induction os with
  | nil => intro l; rfl
  | cons o os ih => intro l; rw [List.foldl_cons, ih, length_mkL]
/-- A file hangs on its own calls alone. -/
theorem mk_own (ss : List ByteArray) (os : List Opv) (one : Nat) (p : Opv → Bool) (hp : ∀ o, p o = decide (o.f = (one : Int))) : (mk ss os).getD one Fl.zero = (mk ss (os.filter p)).getD one Fl.zero := by
  suffices ∀ (os : List Opv) (l l' : List Fl), l.length = l'.length → l.getD one Fl.zero = l'.getD one Fl.zero → (os.foldl mkL l).getD one Fl.zero = ((os.filter p).foldl mkL l').getD one Fl.zero from this os _ _ rfl rfl
  intro os
  induction os with
  | nil => intro l l' _ h; exact h
  | cons o os ih =>
    intro l l' hl h
    rw [List.foldl_cons]
    by_cases ho : o.f = (one : Int)
    · rw [List.filter_cons, hp, decide_eq_true ho, if_pos rfl, List.foldl_cons]
      refine ih _ _ (by rw [length_mkL, length_mkL, hl]) ?_
      unfold mkL
      rw [ho, Int.toNat_natCast, h, hl]
      split
      · rw [getD_set_self _ _ _ _ (by omega), getD_set_self _ _ _ _ (by omega)]
      · exact h
    · rw [List.filter_cons, hp, decide_eq_false ho]
      refine ih _ _ (by rw [length_mkL, hl]) ?_
      rw [← h]
      unfold mkL
      split
      · rw [getD_set_ne _ _ _ _ _ (by omega)]
      · rfl
/-- The value of a slice of calls. -/
def OpAt (w : World) (b off : Nat) (o : Opv) : Prop :=
  w.cell? ⟨b, off, none⟩ = some (.int .i64 o.on) ∧ w.cell? ⟨b, off + 1, none⟩ = some (.int .i64 o.kind) ∧ w.cell? ⟨b, off + 2, none⟩ = some (.int .i64 o.f) ∧ w.cell? ⟨b, off + 3, none⟩ = some (.int .i64 o.n) ∧
    w.cell? ⟨b, off + 4, none⟩ = some (.string o.s) ∧ ∃ cv, w.cell? ⟨b, off + 5, none⟩ = some cv ∧ Rss w cv o.ch
def Ops (w : World) (v : Value) (os : List Opv) : Prop :=
  ∃ p cap, v = .slice p os.length cap ∧ ∀ i, i < os.length → ∃ b off, p = some ⟨b, off, none⟩ ∧ OpAt w b (off + i * 6) (os.getD i Opv.zero)
theorem OpAt.below {w w' : World} {b off : Nat} {o : Opv} (h : OpAt w b off o) (hb : Below w.heap.size w w') : OpAt w' b off o := by
  obtain ⟨h0, h1, h2, h3, h4, cv, h5, h6⟩ := h
  have k := fun (a : Addr) (v : Value) (hc : w.cell? a = some v) => (hb.cell (block_lt_of_cell hc)).trans hc
  exact ⟨k _ _ h0, k _ _ h1, k _ _ h2, k _ _ h3, k _ _ h4, cv, k _ _ h5, h6.below hb⟩
theorem Ops.below {w w' : World} {v : Value} {os : List Opv} (h : Ops w v os) (hb : Below w.heap.size w w') : Ops w' v os := by
  obtain ⟨p, cap, rfl, hc⟩ := h
  exact ⟨p, cap, rfl, fun i hi => by obtain ⟨b, off, hp, ho⟩ := hc i hi; exact ⟨b, off, hp, ho.below hb⟩⟩
/-- A disk that came behind w, in a later world. -/
structure At (B : Nat) (w : World) (b g cap : Nat) (D : Dk) (w' : World) : Prop where
  disk : IsDisk w' b g cap D
  below : Below B w w'
  bB : B ≤ b
  gB : B ≤ g
  le : B ≤ w.heap.size
theorem At.chg {B : Nat} {w w1 w2 : World} {b g cap : Nat} {D D' : Dk} (h : At B w b g cap D w1) (hd : IsDisk w2 b g cap D') (hc : Chg (fun k => k = b ∨ k = g) w1 w2) : At B w b g cap D' w2 :=
  ⟨hd, h.below.trans (hc.below (by have := h.below.size; have := h.le; omega) (fun k hk hs => by have := h.bB; have := h.gB; omega)), h.bB, h.gB, h.le⟩
theorem At.grow {B : Nat} {w w1 w2 : World} {b g cap : Nat} {D : Dk} (h : At B w b g cap D w1) (hb : Below w1.heap.size w1 w2) : At B w b g cap D w2 :=
  ⟨h.disk.below hb, h.below.trans (hb.mono (by have := h.below.size; have := h.le; omega)), h.bB, h.gB, h.le⟩
end Go.Proofs.YtilpbjcbffbjeaaGreatDoor
