/- Walks of the program's disk: New, Clone, Arm. -/
import Derived.Test.YtamaefnlicloaaaDoorDWalk6
namespace Go.Proofs.YtamaefnlicloaaaDoor
open Go.RowKit
theorem infoFile : (Tryd.prog.info? 81).map (fun i => (i.zero, i.size, i.bytes)) = some (some (.agg #[.string ⟨#[]⟩, .slice none 0 0]), 2, 40) := by kernel_rfl
/-- The cells of files that have no writes. -/
def fcells (ss : List ByteArray) : List Value := ss.flatMap fun s => [.string s, .slice none 0 0]
theorem length_fcells (ss : List ByteArray) : (fcells ss).length = ss.length * 2 := by
  induction ss with
  | nil => rfl
  | cons s ss ih => unfold fcells at *; rw [List.flatMap_cons, List.length_append, ih, List.length_cons, List.length_cons, List.length_cons, List.length_nil]; omega
theorem fcells_snoc (ss : List ByteArray) (s : ByteArray) : fcells (ss ++ [s]) = fcells ss ++ [.string s, .slice none 0 0] := by unfold fcells; rw [List.flatMap_append]; rfl
theorem fcells_get (ss : List ByteArray) (i : Nat) (h : i < ss.length) : (fcells ss)[i * 2]? = some (.string (ss.getD i ⟨#[]⟩)) ∧ (fcells ss)[i * 2 + 1]? = some (.slice none 0 0) := by
  induction ss generalizing i with
  | nil => simp at h
  | cons s ss ih =>
    have e : fcells (s :: ss) = .string s :: .slice none 0 0 :: fcells ss := rfl
    rw [e]
    cases i with
    | zero => exact ⟨rfl, rfl⟩
    | succ i =>
      have := ih i (by simpa using h)
      rw [show (i + 1) * 2 = i * 2 + 1 + 1 by omega, show i * 2 + 1 + 1 + 1 = (i * 2 + 1) + 1 + 1 by omega]
      rw [List.getElem?_cons_succ, List.getElem?_cons_succ, List.getElem?_cons_succ, List.getElem?_cons_succ]
      exact this
def OwnsF (w : World) (base : Nat) (v : Value) (ss : List ByteArray) : Prop := w.ownsRow base 81 2 v ss.length (fcells ss)
theorem OwnsF.block {w : World} {base : Nat} {v : Value} {ss : List ByteArray} (h : OwnsF w base v ss) {k : Nat} (hk : v.ownBlock = some k) : base ≤ k ∧ k < w.heap.size := World.ownsRow.lt h k hk
theorem OwnsF.files {w : World} {base : Nat} {v : Value} {ss : List ByteArray} (h : OwnsF w base v ss) (h0 : 0 < ss.length) : ∃ g cap, v = .slice (some ⟨g, 0, none⟩) ss.length cap ∧ base ≤ g ∧ FilesAt w g cap (ss.map fun s => ⟨s, []⟩) := by
  rcases h.2 with ⟨_, hn⟩ | ⟨g, cap, cur, hv, hb, hg, h3, h4, h5, h6⟩
  · omega
  · subst hv
    have hc := fun j hj => World.ownsRow.cellAt (w := w) (base := base) (e := 81) (size := 2) (g := g) (cap := cap) (n := ss.length) (xs := fcells ss) h j hj
    have hgd : ∀ i, i < ss.length → (ss.map fun s => (⟨s, []⟩ : Fl)).getD i Fl.zero = ⟨ss.getD i ⟨#[]⟩, []⟩ := fun i hi => by
      rw [List.getD_eq_getElem?_getD, List.getElem?_map, List.getElem?_eq_getElem hi, List.getD_eq_getElem?_getD, List.getElem?_eq_getElem hi]; rfl
    refine ⟨g, cap, rfl, hb, ⟨⟨cur, hg, h5⟩, h4, by rw [List.length_map]; exact h3, fun i hi => ?_, fun i hi => ?_⟩⟩
    · rw [List.length_map] at hi
      rw [hgd i hi, hc (i * 2) (by omega)]
      exact (fcells_get ss i hi).1
    · rw [List.length_map] at hi
      rw [hgd i hi]
      exact ⟨.slice none 0 0, (hc (i * 2 + 1) (by omega)).trans (fcells_get ss i hi).2, WS.nil w⟩
theorem wpList_append_f {ops : Array Oper} {rest : List Oper} {o : Oper} {a : Act} {w : World} {Q : Exit → Act → World → Prop} {base : Nat} {v : Value} {ss : List ByteArray}
    (hgd : o.guard = none) (s x : Operand) (ho : o.op = .call { callee := .builtin .append, args := #[s, x], argTypes := #[77, 77] })
    (hs : a.eval s = v) (hown : OwnsF w base v ss) (g c : Nat) (new : ByteArray) (hx : a.eval x = .slice (some ⟨g, 0, none⟩) 1 c)
    (hnew : w.cell? ⟨g, 0, none⟩ = some (.string new) ∧ w.cell? ⟨g, 1, none⟩ = some (.slice none 0 0)) (hsz : ss.length ≤ 1048576) (hbase : base ≤ w.heap.size)
    (h : ∀ v' w', OwnsF w' base v' (ss ++ [new]) → w.grownBy w' v.ownBlock → wpList Tryd.prog ops Q rest (a.put o.dst v') w') : wpList Tryd.prog ops Q (o :: rest) a w := by
  obtain ⟨i0, hi0, hz0, hz1, hz2⟩ := info_parts infoFile
  refine wpList_append_own_at w hgd s x 77 ho base 81 i0 (.agg #[.string ⟨#[]⟩, .slice none 0 0]) 2 40 Tryd.underlying77 hi0 hz0 hz1 hz2 rfl (by decide) v ss.length (fcells ss) hs hown ⟨g, 0, none⟩ 1 c [.string new, .slice none 0 0] hx rfl ?_ (by simp [Value.oneCell']) (by unfold maxLen; omega) (by omega) hbase ?_
  · intro j u hu
    have hj : j < 2 := (List.getElem?_eq_some_iff.1 hu).1
    match j, hj with
    | 0, _ => rw [show u = .string new by simpa using hu.symm]; exact hnew.1
    | 1, _ => rw [show u = .slice none 0 0 by simpa using hu.symm]; exact hnew.2
  · intro v' w' h1 h2 _ _
    refine h v' w' ?_ h2
    unfold OwnsF
    rw [List.length_append, fcells_snoc]
    exact h1
theorem OwnsF.form {w : World} {base : Nat} {v : Value} {ss : List ByteArray} (h : OwnsF w base v ss) : ∃ p cap, v = .slice p ss.length cap := by
  rcases h.2 with ⟨hv, hn⟩ | ⟨g, cap, cur, hv, _⟩
  · exact ⟨none, 0, by rw [hv, hn]⟩
  · exact ⟨_, cap, hv⟩
/-- What New answers. -/
def newErr (ss : List ByteArray) : Int := if ss.length = 0 ∨ 32 < ss.length then 160 else if ss.any (fun s => decide (262144 < s.size)) = true then 161 else 0
def newDk (ss : List ByteArray) : Dk := ⟨ss.map fun s => ⟨s, []⟩, 0, [], false⟩
set_option maxHeartbeats 400000 in
theorem newBad {w : World} (v : Value) (ss : List ByteArray) (h : Strs w v ss) (hb : ss.length = 0 ∨ 32 < ss.length) (hm : ss.length ≤ 140737488355328) :
    Calls Tryd.prog 13 #[v] w fun e w' => e = .returned (.tuple #[.pointer none, .int .i64 160]) ∧ Below w.heap.size w w' := by
  obtain ⟨p, cap, rfl, _⟩ := h.form
  rcases hb with hb | hb
  · rw [hb]
    go_enter Tryd.func13, Tryd.ntmps13
    go_wp2_with fail
    go_ret2
    exact ⟨rfl, Below.refl _ _⟩
  · obtain ⟨n, hn⟩ : ∃ n, n = ss.length := ⟨_, rfl⟩
    rw [← hn] at hb hm ⊢
    have h0 : ((n : Int) == 0) = false := by rw [beq_eq_false_iff_ne]; omega
    clear hn h
    go_enter Tryd.func13, Tryd.ntmps13
    go_wp2_with fail
    go_ret2
    exact ⟨rfl, Below.refl _ _⟩
def NewPost (w : World) (ss : List ByteArray) (e : Ending) (w' : World) : Prop := Below w.heap.size w w' ∧
      ((ss.any (fun s => decide (262144 < s.size)) = true ∧ e = .returned (.tuple #[.pointer none, .int .i64 161])) ∨
       (ss.any (fun s => decide (262144 < s.size)) = false ∧ ∃ b g cap, e = .returned (.tuple #[.pointer (some ⟨b, 0, none⟩), .int .i64 0]) ∧ IsDisk w' b g cap (newDk ss) ∧ w.heap.size ≤ b ∧ w.heap.size ≤ g))
set_option maxRecDepth 100000 in
set_option maxHeartbeats 800000 in
theorem newGood {w : World} (v : Value) (ss : List ByteArray) (h : Strs w v ss) (h1 : 0 < ss.length) (h2 : ss.length ≤ 32) (hm : ∀ i, i < ss.length → (ss.getD i ⟨#[]⟩).size ≤ 140737488355328) :
    Calls Tryd.prog 13 #[v] w (NewPost w ss) := by
  obtain ⟨p, scap, rfl, hcell⟩ := h.form
  have HCELL := Lib.hid hcell
  obtain ⟨n, hn⟩ : ∃ n, n = ss.length := ⟨_, rfl⟩
  rw [← hn] at h1 h2 ⊢
  have h0 : ((n : Int) == 0) = false := by rw [beq_eq_false_iff_ne]; omega
  have h00 : decide ((32 : Int) < (n : Int)) = false := by rw [decide_eq_false_iff_not]; omega
  have HN := Lib.hid hn
  have HM := Lib.hid hm
  clear hn h hcell hm
  go_enter Tryd.func13, Tryd.ntmps13
  go_wp2_with fail
  obtain ⟨b0, hb0⟩ : ∃ b, b = w.heap.size := ⟨_, rfl⟩
  obtain ⟨W, hW⟩ : ∃ W, W = w.alloc (.cells #[.slice none 0 0, .int .i64 0, .slice none 0 0, .bool false] 79) := ⟨_, rfl⟩
  have hblk : W.heap[b0]? = some (.cells #[.slice none 0 0, .int .i64 0, .slice none 0 0, .bool false] 79 (0, 0)) := by rw [hW, hb0]; exact heap_alloc_new w _
  have hbw : Below b0 w W := by rw [hW, hb0]; exact (Below.refl _ _).alloc (Nat.le_refl _) _
  have hsz : b0 + 1 ≤ W.heap.size := by rw [hW, hb0]; simp
  rw [← hW, ← hb0]
  have HBLK := Lib.hid hblk
  have HBW := Lib.hid hbw
  have HB0 := Lib.hid hb0
  clear hW hblk hbw hb0
  go_loopw [19] (fun vi wr => ∃ (i : Nat) (v : Value), i ≤ n ∧ vi = .int .i64 (i : Nat) ∧ wr.heap[b0]? = some (.cells #[v, .int .i64 0, .slice none 0 0, .bool false] 79 (0, 0)) ∧ OwnsF wr (b0 + 1) v (ss.take i) ∧ Below b0 w wr ∧ b0 + 1 ≤ wr.heap.size ∧ (∀ j, j < i → (ss.getD j ⟨#[]⟩).size ≤ 262144)) (fun vi _ => (n - intOf vi).toNat)
  case atStart => exact ⟨0, .slice none 0 0, by omega, rfl, HBLK.out, World.ownsRow_nil _ _ _ _, HBW.out, hsz, fun j hj => by omega⟩
  case round =>
    obtain ⟨i, v, hi, rfl, hblk, ho, hbw, hsz, hsm⟩ := hrel
    have HBL := Lib.hid hblk
    have HO := Lib.hid ho
    have HBW := Lib.hid hbw
    have HSM := Lib.hid hsm
    by_cases hlt : i < n
    · obtain ⟨sb, so, hp, hx⟩ := HCELL.out i (by rw [← HN.out]; exact hlt)
      subst hp
      have hxm := HM.out i (by rw [← HN.out]; exact hlt)
      have htk := take_succ_getD ss i ⟨#[]⟩ (by rw [← HN.out]; exact hlt)
      obtain ⟨x, hxx⟩ : ∃ x, x = ss.getD i ⟨#[]⟩ := ⟨_, rfl⟩
      rw [show (ByteArray.empty : ByteArray) = ⟨#[]⟩ from rfl, ← hxx] at hx
      rw [← hxx] at hxm htk
      have hxw : wr.cell? ⟨sb, so + i, none⟩ = some (.string x) := (hbw.cell (by rw [HB0.out]; exact block_lt_of_cell hx)).trans hx
      have c0 : ∀ o, (wr.alloc o).cell? ⟨b0, 0, none⟩ = some v := fun o => by
        rw [World.cell?_alloc_lt _ _ _ (by show b0 < _; omega)]; exact cell_of_row wr b0 0 _ _ _ hblk
      have c00 : wr.cell? ⟨b0, 0, none⟩ = some v := cell_of_row wr b0 0 _ _ _ hblk
      obtain ⟨vp, vc, rfl⟩ := ho.form
      have HXX := Lib.hid hxx
      have HTK := Lib.hid htk
      have hlen : (ss.take i).length = i := by rw [List.length_take, ← HN.out]; omega
      rw [hlen] at c00 HBL HO
      have HLEN := Lib.hid hlen
      clear hx hxx htk hblk ho hbw hsm c0 hlen
      by_cases hbig : 262144 < x.size
      · go_wp2_with fail
        go_ret2
        refine ⟨HBW.out.mono (by rw [HB0.out]; exact Nat.le_refl _), .inl ⟨?_, rfl⟩⟩
        rw [List.any_eq_true]
        refine ⟨x, ?_, decide_eq_true hbig⟩
        rw [HXX.out, List.getD_eq_getElem?_getD, List.getElem?_eq_getElem (by rw [← HN.out]; exact hlt)]
        exact List.getElem_mem _
      · go_wp2_with (at_builtin; refine wpList_append_f rfl _ _ rfl rfl (World.ownsRow.alloc HO.out _) wr.heap.size 1 x rfl ?d1 ?d2 ?d3 ?_)
        case d1 => exact ⟨by simp, by simp⟩
        case d2 => rw [HLEN.out]; omega
        case d3 => simp; omega
        intro v5 w5 ho5 hg5
        rw [← HTK.out] at ho5
        have hneb : (Value.slice vp i vc).ownBlock ≠ some b0 := fun e => by have := (OwnsF.block HO.out e).1; omega
        have hblk5 : w5.heap[b0]? = some (.cells #[.slice vp i vc, .int .i64 0, .slice none 0 0, .bool false] 79 (0, 0)) :=
          (hg5.block b0 (by simp; omega) (Ne.symm hneb)).trans ((heap_lt (by omega)).trans HBL.out)
        have hb5 : Below b0 w w5 := (HBW.out.alloc (by omega) _).grown hg5 (by simp; omega) (fun k hk => by have := (OwnsF.block HO.out hk).1; omega)
        have hs5 : b0 + 1 ≤ w5.heap.size := by have := hg5.size; simp at this; omega
        obtain ⟨p5, c5, rfl⟩ := ho5.form
        have k0 := cell_of_row w5 b0 0 _ _ _ hblk5
        have f0 := frozen_of_row w5 b0 0 _ _ hblk5
        have hset := setCell_blk w5 b0 0 (.slice p5 (ss.take (i + 1)).length c5) hblk5
        have hlen2 : (ss.take (i + 1)).length = i + 1 := by rw [List.length_take, ← HN.out]; omega
        have ho6 : OwnsF (w5.setCell ⟨b0, 0, none⟩ (.slice p5 (ss.take (i + 1)).length c5)) (b0 + 1) (.slice p5 (ss.take (i + 1)).length c5) (ss.take (i + 1)) :=
          World.ownsRow.kept (row := some b0) ho5 ⟨rfl, rfl, rfl, by simp [World.setCell], fun k _ hk => Below.heap_setCell _ _ _ _ (fun e => hk (by rw [e]))⟩ (.inr (fun e => by have := (OwnsF.block ho5 e).1; omega))
        rw [hlen2] at hset ho6 ⊢
        have R := Lib.hid (And.intro hset (And.intro ho6 (hb5.setCell (p := ⟨b0, 0, none⟩) (Nat.le_refl _) (.slice p5 (i + 1) c5))))
        clear ho5 hg5 hneb hblk5 hb5 hset hlen2 ho6 HBL HO
        go_wp2_with fail
        refine ⟨⟨i + 1, _, by omega, rfl, R.out.1, R.out.2.1, R.out.2.2, by simpa [World.setCell] using hs5, fun j hj => ?_⟩, by simp [intOf]; omega⟩
        by_cases e : j = i
        · subst e; rw [← HXX.out]; omega
        · exact HSM.out j (by omega)
    · have hie : i = n := by omega
      rw [hie, HN.out, List.take_length] at ho
      obtain ⟨g, cap, rfl, hge, hfs⟩ := ho.files (by rw [← HN.out]; exact h1)
      have hdk : IsDisk wr b0 g cap (newDk ss) := by
        refine ⟨⟨.slice none 0 0, ?_, WCs.nil _⟩, hfs⟩
        show wr.heap[b0]? = some (.cells #[.slice (some ⟨g, 0, none⟩) (ss.map fun s => (⟨s, []⟩ : Fl)).length cap, .int .i64 0, .slice none 0 0, .bool false] 79 (0, 0))
        rw [List.length_map]
        exact hblk
      have hany : ss.any (fun s => decide (262144 < s.size)) = false := by
        rw [List.any_eq_false]
        intro x hx
        obtain ⟨j, hj, rfl⟩ := List.getElem_of_mem hx
        have := hsm j (by rw [hie, HN.out]; exact hj)
        rw [List.getD_eq_getElem?_getD, List.getElem?_eq_getElem hj] at this
        simp only [Option.getD_some] at this
        simp only [decide_eq_true_eq]
        omega
      have R := Lib.hid (And.intro hdk (And.intro hany hge))
      clear hdk hany ho hblk hfs hie hbw hsm HBL HO
      go_wp2_with fail
      go_ret2
      have hb0 := HB0.out
      exact ⟨HBW.out.mono (by omega), .inr ⟨R.out.2.1, b0, g, cap, rfl, R.out.1, by omega, by have := R.out.2.2; omega⟩⟩
end Go.Proofs.YtamaefnlicloaaaDoor
