/- The document's disk: New. -/
import Derived.Test.YtilpbjcbffbjeaaGreatDoorPkD
namespace Go.Proofs.YtilpbjcbffbjeaaGreatDoor
open Go.RowKit
theorem step_append_own {P : Program} {ops : Array Oper} {o : Oper} {a : Act} {w : World} {K : Act → World → Prop} {Q : Exit → Act → World → Prop} {E : Prop}
    (hg : o.guard = none) (s x : Operand) (t : TypeId) (hop : o.op = Op.call { callee := Callee.builtin Builtin.append, args := #[s, x], argTypes := #[t, t] }) (base : Nat)
    (e : TypeId) (i : TypeInfo) (z : Value) (size bytes : Nat) (h1 : P.underlying t = some (.slice e)) (h2 : P.info? e = some i) (h3 : i.zero = some z) (h4 : i.size = size) (h5 : i.bytes = bytes) (h6 : z.cells.size = size) (h7 : 0 < size)
    (v : Value) (n : Nat) (olds : List Value) (hs : a.eval s = v) (hown : w.ownsRow base e size v n olds)
    (ad : Addr) (m c : Nat) (news : List Value) (hx : a.eval x = .slice (some ad) m c) (hn : news.length = m * size) (hc : ∀ j u, news[j]? = some u → w.cell? (ad.add j) = some u) (h1c : ∀ u ∈ news, u.oneCell' = true)
    (b1 : n + m ≤ maxLen) (b2 : (n + m) * bytes ≤ 140737488355328) (hb : base ≤ w.heap.size)
    (hK : ∀ v' w', w'.ownsRow base e size v' (n + m) (olds ++ news) → w.grownBy w' v.ownBlock → K (a.put o.dst v') w') :
    if Region.wanted o (yielded ops a.tmps) = true then Oper.wp P o a w K Q else E := by
  have hw : Region.wanted o (yielded ops a.tmps) = true := by simp [Region.wanted, hg]
  rw [if_pos hw]
  obtain ⟨v', w', hrun, r1, r2, _⟩ := run_append_own_at (P := P) w base t o.type e i z size bytes h1 h2 h3 h4 h5 h6 h7 v n olds hown ad m c news hn hc h1c b1 b2 hb
  unfold Oper.wp
  simp [execOp, hop, resolve, invoke, builtin, hs, hx, hrun, Result.andThen]
  exact hK v' w' r1 r2
theorem infoRFile : (Tryz.prog.info? 129).map (fun i => (i.zero, i.size, i.bytes)) = some (some (.agg #[.string ⟨#[]⟩, .slice none 0 0]), 2, 40) := by kernel_rfl
def OwnsRF (w : World) (base : Nat) (v : Value) (ss : List ByteArray) : Prop := w.ownsRow base 129 2 v ss.length (fcells ss)
theorem OwnsRF.block {w : World} {base : Nat} {v : Value} {ss : List ByteArray} (h : OwnsRF w base v ss) {k : Nat} (hk : v.ownBlock = some k) : base ≤ k ∧ k < w.heap.size := World.ownsRow.lt h k hk
theorem OwnsRF.form {w : World} {base : Nat} {v : Value} {ss : List ByteArray} (h : OwnsRF w base v ss) : ∃ p cap, v = .slice p ss.length cap := by
  rcases h.2 with ⟨hv, hn⟩ | ⟨g, cap, cur, hv, _⟩
  · exact ⟨none, 0, by rw [hv, hn]⟩
  · exact ⟨_, cap, hv⟩
set_option maxHeartbeats 400000 in
theorem rnewBad {w : World} (v : Value) (ss : List ByteArray) (h : Strs w v ss) (hb : ss.length = 0 ∨ 32 < ss.length) (hm : ss.length ≤ 140737488355328) :
    Calls Tryz.prog 35 #[v] w fun e w' => e = .returned (.tuple #[.pointer none, .int .i64 160]) ∧ Below w.heap.size w w' := by
  obtain ⟨p, cap, rfl, _⟩ := h.form
  rcases hb with hb | hb
  · rw [hb]
    go_enter Tryz.func35, Tryz.ntmps35
    go_wp2_with fail
    go_ret2
    exact ⟨rfl, Below.refl _ _⟩
  · obtain ⟨n, hn⟩ : ∃ n, n = ss.length := ⟨_, rfl⟩
    rw [← hn] at hb hm ⊢
    have h0 : ¬ (n : Int) < 1 := by omega
    clear hn h
    go_enter Tryz.func35, Tryz.ntmps35
    go_wp2_with fail
    go_ret2
    exact ⟨rfl, Below.refl _ _⟩
/-- A disk of the document's, fresh from New. -/
def RNewPost (w : World) (ss : List ByteArray) (e : Ending) (w' : World) : Prop := Below w.heap.size w w' ∧
      ((ss.any (fun s => decide (262144 < s.size)) = true ∧ e = .returned (.tuple #[.pointer none, .int .i64 161])) ∨
       (ss.any (fun s => decide (262144 < s.size)) = false ∧ ∃ b v, e = .returned (.tuple #[.pointer (some ⟨b, 0, none⟩), .int .i64 0]) ∧
          w'.heap[b]? = some (.cells #[v, .int .i64 0, .slice none 0 0, .bool false] 76 (0, 0)) ∧ OwnsRF w' (b + 1) v ss ∧ w.heap.size ≤ b))
set_option maxRecDepth 100000 in
set_option maxHeartbeats 1600000 in
theorem rnewGood {w : World} (v : Value) (ss : List ByteArray) (h : Strs w v ss) (h1 : 0 < ss.length) (h2 : ss.length ≤ 32) (hm : ∀ i, i < ss.length → (ss.getD i ⟨#[]⟩).size ≤ 140737488355328) :
    Calls Tryz.prog 35 #[v] w (RNewPost w ss) := by
  obtain ⟨p, scap, rfl, hcell⟩ := h.form
  have HCELL := Lib.hid hcell
  obtain ⟨n, hn⟩ : ∃ n, n = ss.length := ⟨_, rfl⟩
  rw [← hn] at h1 h2 ⊢
  have h0 : ¬ (n : Int) < 1 := by omega
  have h00 : decide ((32 : Int) < (n : Int)) = false := by rw [decide_eq_false_iff_not]; omega
  have HN := Lib.hid hn
  have HM := Lib.hid hm
  obtain ⟨i0, hi0, hz0, hz1, hz2⟩ := info_parts infoRFile
  clear hn h hcell hm
  go_enter Tryz.func35, Tryz.ntmps35
  go_wp2_with fail
  obtain ⟨b0, hb0⟩ : ∃ b, b = w.heap.size := ⟨_, rfl⟩
  obtain ⟨W, hW⟩ : ∃ W, W = w.alloc (.cells #[.slice none 0 0, .int .i64 0, .slice none 0 0, .bool false] 76) := ⟨_, rfl⟩
  have hblk : W.heap[b0]? = some (.cells #[.slice none 0 0, .int .i64 0, .slice none 0 0, .bool false] 76 (0, 0)) := by rw [hW, hb0]; exact heap_alloc_new w _
  have hbw : Below b0 w W := by rw [hW, hb0]; exact (Below.refl _ _).alloc (Nat.le_refl _) _
  have hsz : b0 + 1 ≤ W.heap.size := by rw [hW, hb0]; simp
  rw [← hW, ← hb0]
  have HBLK := Lib.hid hblk
  have HBW := Lib.hid hbw
  have HB0 := Lib.hid hb0
  clear hW hblk hbw hb0
  go_loopw [5] (fun vi wr => ∃ (i : Nat) (v : Value), i ≤ n ∧ vi = .int .i64 (i : Nat) ∧ wr.heap[b0]? = some (.cells #[v, .int .i64 0, .slice none 0 0, .bool false] 76 (0, 0)) ∧ OwnsRF wr (b0 + 1) v (ss.take i) ∧ Below b0 w wr ∧ b0 + 1 ≤ wr.heap.size ∧ (∀ j, j < i → (ss.getD j ⟨#[]⟩).size ≤ 262144)) (fun vi _ => (n - intOf vi).toNat)
  case atStart => exact ⟨0, .slice none 0 0, by omega, rfl, HBLK.out, World.ownsRow_nil _ _ _ _, HBW.out, hsz, fun j hj => by omega⟩
  case round =>
    obtain ⟨i, v, hi, rfl, hblk, ho, hbw, hsz, hsm⟩ := hrel
    have HBL := Lib.hid hblk
    have HO := Lib.hid ho
    have HBW := Lib.hid hbw
    have HSM := Lib.hid hsm
    by_cases hlt : i < n
    · obtain ⟨sb, so, hp, hx⟩ := HCELL.out i (by rw [← HN.out]; exact hlt)
      subst hp
      have hxm := HM.out i (by rw [← HN.out]; exact hlt)
      have htk := take_succ_getD ss i ⟨#[]⟩ (by rw [← HN.out]; exact hlt)
      obtain ⟨x, hxx⟩ : ∃ x, x = ss.getD i ⟨#[]⟩ := ⟨_, rfl⟩
      rw [show (ByteArray.empty : ByteArray) = ⟨#[]⟩ from rfl, ← hxx] at hx
      rw [← hxx] at hxm htk
      have hxw : wr.cell? ⟨sb, so + i, none⟩ = some (.string x) := (hbw.cell (by rw [HB0.out]; exact block_lt_of_cell hx)).trans hx
      have c00 : wr.cell? ⟨b0, 0, none⟩ = some v := cell_of_row wr b0 0 _ _ _ hblk
      obtain ⟨vp, vc, rfl⟩ := ho.form
      have HXX := Lib.hid hxx
      have HTK := Lib.hid htk
      have hlen : (ss.take i).length = i := by rw [List.length_take, ← HN.out]; omega
      rw [hlen] at c00 HBL HO
      have HLEN := Lib.hid hlen
      clear hx hxx htk hblk ho hbw hsm hlen
      by_cases hbig : 262144 < x.size
      · go_wp2_with fail
        go_ret2
        refine ⟨HBW.out.mono (by rw [HB0.out]; exact Nat.le_refl _), .inl ⟨?_, rfl⟩⟩
        rw [List.any_eq_true]
        refine ⟨x, ?_, decide_eq_true hbig⟩
        rw [HXX.out, List.getD_eq_getElem?_getD, List.getElem?_eq_getElem (by rw [← HN.out]; exact hlt)]
        exact List.getElem_mem _
      · obtain ⟨w4, hw4⟩ : ∃ w4, w4 = (wr.alloc (.cells #[.string x, .slice none 0 0] 129)).drew := ⟨_, rfl⟩
        have hHO : Hid (w4.ownsRow (b0 + 1) 129 2 (.slice vp i vc) i (fcells (ss.take i))) := by
          rw [hw4]
          have := HO.out
          unfold OwnsRF at this
          rw [HLEN.out] at this
          exact World.ownsRow.alloc this _
        have HNEW : Hid (∀ j u, [Value.string x, .slice none 0 0][j]? = some u → w4.cell? ((⟨wr.heap.size, 0, none⟩ : Addr).add j) = some u) := fun j u hu => by
          have hj : j < 2 := (List.getElem?_eq_some_iff.1 hu).1
          rw [hw4]
          match j, hj with
          | 0, _ => rw [show u = .string x by simpa using hu.symm]; simp [Addr.add]
          | 1, _ => rw [show u = .slice none 0 0 by simpa using hu.symm]; simp [Addr.add]
        have HB4 : Hid (b0 + 1 ≤ w4.heap.size) := by unfold Hid; rw [hw4]; simp; omega
        have MK : Hid (∀ (v5 : Value) (w5 : World), w5.ownsRow (b0 + 1) 129 2 v5 (i + 1) (fcells (ss.take i) ++ [.string x, .slice none 0 0]) → w4.grownBy w5 (Value.slice vp i vc).ownBlock →
            ∃ p5 c5, v5 = .slice p5 (i + 1) c5 ∧ w5.cell? ⟨b0, 0, none⟩ = some (.slice vp i vc) ∧ w5.frozen? ⟨b0, 0, none⟩ = false ∧
              Hid ((w5.setCell ⟨b0, 0, none⟩ (.slice p5 (i + 1) c5)).heap[b0]? = some (.cells #[.slice p5 (i + 1) c5, .int .i64 0, .slice none 0 0, .bool false] 76 (0, 0)) ∧
                OwnsRF (w5.setCell ⟨b0, 0, none⟩ (.slice p5 (i + 1) c5)) (b0 + 1) (.slice p5 (i + 1) c5) (ss.take (i + 1)) ∧ Below b0 w (w5.setCell ⟨b0, 0, none⟩ (.slice p5 (i + 1) c5)) ∧ b0 + 1 ≤ w5.heap.size)) := fun v5 w5 ho hg => by
          have ho5 : OwnsRF w5 (b0 + 1) v5 (ss.take (i + 1)) := by
            unfold OwnsRF
            rw [HTK.out, fcells_snoc, List.length_append, HLEN.out]
            exact ho
          have hneb : (Value.slice vp i vc).ownBlock ≠ some b0 := fun e => by have := (OwnsRF.block HO.out e).1; omega
          have hblk5 : w5.heap[b0]? = some (.cells #[.slice vp i vc, .int .i64 0, .slice none 0 0, .bool false] 76 (0, 0)) :=
            (hg.block b0 (by rw [hw4]; simp; omega) (Ne.symm hneb)).trans ((by rw [hw4]; exact heap_lt (by omega) : w4.heap[b0]? = wr.heap[b0]?).trans HBL.out)
          have hb5 : Below b0 w w5 := (show Below b0 w w4 by rw [hw4]; exact (HBW.out.alloc (by omega) _).drew).grown hg (by rw [hw4]; simp; omega) (fun k hk => by have := (OwnsRF.block HO.out hk).1; omega)
          have hs5 : b0 + 1 ≤ w5.heap.size := by have := hg.size; rw [hw4] at this; simp at this; omega
          obtain ⟨p5, c5, rfl⟩ := ho5.form
          have hlen2 : (ss.take (i + 1)).length = i + 1 := by rw [List.length_take, ← HN.out]; omega
          have ho6 : OwnsRF (w5.setCell ⟨b0, 0, none⟩ (.slice p5 (ss.take (i + 1)).length c5)) (b0 + 1) (.slice p5 (ss.take (i + 1)).length c5) (ss.take (i + 1)) :=
            World.ownsRow.kept (row := some b0) ho5 ⟨rfl, rfl, rfl, by simp [World.setCell], fun k _ hk => Below.heap_setCell _ _ _ _ (fun e => hk (by rw [e]))⟩ (.inr (fun e => by have := (OwnsRF.block ho5 e).1; omega))
          rw [hlen2] at ho6 ⊢
          exact ⟨p5, c5, rfl, cell_of_row w5 b0 0 _ _ _ hblk5, frozen_of_row w5 b0 0 _ _ hblk5, setCell_blk w5 b0 0 _ hblk5, ho6, hb5.setCell (p := ⟨b0, 0, none⟩) (Nat.le_refl _) (.slice p5 (i + 1) c5), hs5⟩
        have i1 : (0 : Int) ≤ (i : Int) := by omega
        have i2 : (i : Int) < (n : Int) := by omega
        have cA : ((wr.alloc (.cells #[.string x, .slice none 0 0] 129)).drew).cell? ⟨b0, 0, none⟩ = some (.slice vp i vc) := by
          rw [World.cell?_drew, World.cell?_alloc_lt _ _ _ (by show b0 < _; omega)]; exact c00
        clear HBL HO
        go_wp2_with fail
        go_region_law (rw [← hw4]; refine step_append_own (by rfl) _ _ 74 (by rfl) (b0 + 1) 129 i0 (.agg #[.string ⟨#[]⟩, .slice none 0 0]) 2 40 Tryz.underlying74 hi0 hz0 hz1 hz2 rfl (by decide) (.slice vp i vc) i (fcells (ss.take i)) (by rfl) hHO.out ⟨wr.heap.size, 0, none⟩ 1 1 [.string x, .slice none 0 0] (by rfl) rfl HNEW.out (by simp [Value.oneCell']) (by unfold maxLen; omega) (by omega) HB4.out ?_; intro v5 w5 ho5 hg5; obtain ⟨p5, c5, rfl, k0, k1, HK⟩ := MK.out v5 w5 ho5 hg5; clear ho5 hg5)
        all_goals
          obtain ⟨r1, r2, r3, r4⟩ := HK.out
          have R := Lib.hid (And.intro r1 (And.intro r2 r3))
          clear r1 r2 r3 HK k0 k1
          go_wp2_with fail
          refine ⟨⟨i + 1, _, by omega, rfl, R.out.1, R.out.2.1, R.out.2.2, by simpa [World.setCell] using r4, fun j hj => ?_⟩, by simp [intOf]; omega⟩
          by_cases e : j = i
          · subst e; rw [← HXX.out]; omega
          · exact HSM.out j (by omega)
    · have hie : i = n := by omega
      rw [hie, HN.out, List.take_length] at ho
      have hany : ss.any (fun s => decide (262144 < s.size)) = false := by
        rw [List.any_eq_false]
        intro x hx
        obtain ⟨j, hj, rfl⟩ := List.getElem_of_mem hx
        have := hsm j (by rw [hie, HN.out]; exact hj)
        rw [List.getD_eq_getElem?_getD, List.getElem?_eq_getElem hj] at this
        simp only [Option.getD_some] at this
        simp only [decide_eq_true_eq]
        omega
      have R := Lib.hid (And.intro hblk (And.intro hany ho))
      clear hany ho hblk hie hbw hsm HBL HO
      go_wp2_with fail
      go_ret2
      have hb0 := HB0.out
      exact ⟨HBW.out.mono (by omega), .inr ⟨R.out.2.1, b0, v, rfl, R.out.1, R.out.2.2, by omega⟩⟩
/-- The document's New, whatever came in: what it says. -/
theorem rnewW {w : World} (v : Value) (ss : List ByteArray) (h : Strs w v ss) (hl : ss.length ≤ 1048576) (hm : ∀ i, i < ss.length → (ss.getD i ⟨#[]⟩).size ≤ 1048576) :
    Calls Tryz.prog 35 #[v] w fun e w' => Below w.heap.size w w' ∧
      ((newErr ss ≠ 0 ∧ e = .returned (.tuple #[.pointer none, .int .i64 (newErr ss)])) ∨
       (newErr ss = 0 ∧ ∃ b v, e = .returned (.tuple #[.pointer (some ⟨b, 0, none⟩), .int .i64 0]) ∧
          w'.heap[b]? = some (.cells #[v, .int .i64 0, .slice none 0 0, .bool false] 76 (0, 0)) ∧ OwnsRF w' (b + 1) v ss ∧ w.heap.size ≤ b)) := by
  by_cases hb : ss.length = 0 ∨ 32 < ss.length
  · have e0 : newErr ss = 160 := by unfold newErr; rw [if_pos hb]
    refine (rnewBad v ss h hb (by omega)).mono fun e w' ⟨h1, h2⟩ => ⟨h2, .inl ⟨by rw [e0]; decide, by rw [e0]; exact h1⟩⟩
  · refine (rnewGood v ss h (by omega) (by omega) (fun i hi => by have := hm i hi; omega)).mono fun e w' ⟨h2, h1⟩ => ⟨h2, ?_⟩
    rcases h1 with ⟨h3, h4⟩ | ⟨h3, h4⟩
    · have e0 : newErr ss = 161 := by unfold newErr; rw [if_neg hb, if_pos h3]
      exact .inl ⟨by rw [e0]; decide, by rw [e0]; exact h4⟩
    · have e0 : newErr ss = 0 := by unfold newErr; rw [if_neg hb, h3]; rfl
      exact .inr ⟨e0, h4⟩
end Go.Proofs.YtilpbjcbffbjeaaGreatDoor
