/- The law TextParts, walked. -/
import Derived.Test.YthdoeaiehajofaaDoorTFixed
import Derived.Test.YthdoeaiehajofaaDoorLoose
namespace Go.Proofs.YthdoeaiehajofaaDoor
set_option linter.unusedVariables false
set_option maxRecDepth 100000
open Go.RowKit
theorem count_take_succ (l : List Nat) (c i : Nat) (h : i < l.length) : (l.take (i + 1)).count c = (l.take i).count c + if l.getD i 0 = c then 1 else 0 := by
  rw [take_succ_lt l i h 0, List.count_append, List.count_singleton]
  congr 1
  simp
theorem take_idx (c : Nat) : ∀ l : List Nat, c ∈ l → l.idxOf c < l.length ∧ l.take (l.idxOf c + 1) = l.take (l.idxOf c) ++ [c] ∧ (∀ j, j < l.idxOf c → l.getD j 0 ≠ c)
  | [], h => by simp at h
  | a :: l, h => by
    by_cases e : a = c
    · subst e
      simp
    · have hm : c ∈ l := by
        rcases List.mem_cons.1 h with h | h
        · exact absurd h.symm e
        · exact h
      obtain ⟨h1, h2, h3⟩ := take_idx c l hm
      have hi : (a :: l).idxOf c = l.idxOf c + 1 := by rw [List.idxOf_cons, show (a == c) = false from beq_eq_false_iff_ne.2 e]; rfl
      rw [hi]
      refine ⟨by simp; omega, by rw [List.take_succ_cons, h2]; rfl, fun j hj => ?_⟩
      cases j with
      | zero => simpa using e
      | succ j => simpa using h3 j (by omega)
theorem count_none (c : Nat) (l : List Nat) (h : ∀ j, j < l.length → l.getD j 0 ≠ c) : l.count c = 0 := by
  rw [List.count_eq_zero]
  intro hm
  obtain ⟨j, hj, e⟩ := List.getElem_of_mem hm
  have := h j hj
  rw [List.getD_eq_getElem?_getD, List.getElem?_eq_getElem hj] at this
  exact this e
/-- A step over the parts: what Until tells. -/
theorem parts_step (l : List Nat) (c k : Nat) (hk : k ≤ l.length) (h : (l.take k).count c < l.count c) :
    (l.drop k).idxOf c < l.length - k ∧ l.take (k + ((l.drop k).idxOf c + 1)) = l.take k ++ ((l.drop k).take ((l.drop k).idxOf c) ++ [c]) ∧
      (l.take (k + ((l.drop k).idxOf c + 1))).count c = (l.take k).count c + 1 ∧ (∀ j, j < (l.drop k).idxOf c → (l.drop k).getD j 0 ≠ c) := by
  have e : l.count c = (l.take k).count c + (l.drop k).count c := by rw [← List.count_append, List.take_append_drop]
  have hm : c ∈ l.drop k := List.count_pos_iff.1 (by omega)
  obtain ⟨h1, h2, h3⟩ := take_idx c _ hm
  rw [List.length_drop] at h1
  have e2 : l.take (k + ((l.drop k).idxOf c + 1)) = l.take k ++ ((l.drop k).take ((l.drop k).idxOf c) ++ [c]) := by rw [List.take_add, h2]
  refine ⟨h1, e2, ?_, h3⟩
  rw [e2, List.count_append, List.count_append, count_none c ((l.drop k).take _) (fun j hj => ?_)]
  · simp
  · rw [List.length_take] at hj
    rw [List.getD_eq_getElem?_getD, List.getElem?_take, if_pos (by omega), ← List.getD_eq_getElem?_getD]
    exact h3 j (by omega)
theorem parts_end (l : List Nat) (c k : Nat) (hk : k ≤ l.length) (h : ¬ (l.take k).count c < l.count c) : ¬ (l.drop k).idxOf c < l.length - k := by
  intro hi
  rw [← List.length_drop, List.idxOf_lt_length_iff] at hi
  have e : l.count c = (l.take k).count c + (l.drop k).count c := by rw [← List.count_append, List.take_append_drop]
  have := List.count_pos_iff.2 hi
  omega
theorem wpList_owned_string_w {P : Program} {ops : Array Oper} {rest : List Oper} {o : Oper} {a : Act} {w : World} {Q : Exit → Act → World → Prop} {base : Nat} {e : TypeId} {v : Value} {l : List Nat}
    (hgd : Region.wanted o (yielded ops a.tmps) = true) (src dst : TypeId) (x : Operand) (ho : o.op = .convert src dst x) (hs : P.underlying src = some (.slice e)) (he : P.underlying e = some (.int .u8)) (hd : P.underlying dst = some .string)
    (hx : a.eval x = v) (hown : Owns w base e v l) (h : wpList P ops Q rest (a.put o.dst (.string (strOf l))) w) : wpList P ops Q (o :: rest) a w := by
  refine wpList_step fun K hK => ?_
  rw [if_pos hgd]
  have hrun := run_owned_string (P := P) w src dst hs he hd hown
  unfold Oper.wp execOp
  simp only [ho, hx, Sem.run_bind, hrun, Result.andThen_ok, Sem.run_pure]
  exact hK _ _ h
set_option maxHeartbeats 16000000 in
theorem partsLaw (s : ByteArray) (c : Nat) (w : World) (hgl : Glob w) (hc : c < 256) (hs : s.size ≤ 4194304) :
    Calls Tryd.prog 8 #[.string s, .int .u8 (c : Nat)] w fun e w' => e = .returned (.bool true) ∧ Below w.heap.size w w' := by
  have HG := Lib.hid hgl
  have HLT := Lib.hid hgl.lt
  obtain ⟨n0, hn0⟩ : ∃ n, n = w.heap.size := ⟨_, rfl⟩
  rw [← hn0] at HLT ⊢
  have HN0 := Lib.hid hn0
  clear hgl hn0
  obtain ⟨M, hM⟩ : ∃ M, M = (bs s).count c := ⟨_, rfl⟩
  have HM := Lib.hid hM
  have hM2 : M ≤ 4194304 := by rw [hM]; have := List.count_le_length (a := c) (l := bs s); rw [length_bs] at this; omega
  clear hM
  go_enter Tryd.func8, Tryd.ntmps8
  go_wp2_with fail
  refine (openW s w).mono ?_
  rintro e w1 ⟨rfl, rfl⟩
  obtain ⟨b, hb⟩ : ∃ b, b = w.heap.size := ⟨_, rfl⟩
  obtain ⟨w1, hw1⟩ : ∃ w1, w1 = w.alloc (.cells #[.string s, .int .i64 0] 70) := ⟨_, rfl⟩
  have HC1 : Hid (IsC w1 b 70 s 0) := by unfold Hid; rw [hw1, hb]; exact IsC.new w 70 s (by omega)
  have HB1 : Hid (Below n0 w w1) := by unfold Hid; rw [hw1, HN0.out]; exact (Below.refl _ _).alloc (Nat.le_refl _) _
  have HZ1 : Hid (n0 ≤ w1.heap.size) := by unfold Hid; rw [hw1, szA, HN0.out]; omega
  have HBN : Hid (n0 ≤ b) := by unfold Hid; rw [hb, HN0.out]; exact Nat.le_refl _
  rw [← hb, ← hw1]
  clear hb hw1
  go_wp2_with fail
  refine (fixedW w1 (HG.out.below HB1.out HLT.out)).mono ?_
  rintro e w2 ⟨rfl, hb⟩
  have HC2 := Lib.hid (HC1.out.below hb HC1.out.lt)
  have HB2 := Lib.hid (HB1.out.trans (hb.mono HZ1.out))
  have HZ2 := Lib.hid (Nat.le_trans HZ1.out hb.size)
  clear hb
  go_wp2_with fail
  go_loop [6, 7] (fun v6 v7 => ∃ i m : Nat, i ≤ s.size ∧ v7 = .int .i64 (i : Nat) ∧ v6 = .int .i64 (m : Nat) ∧ m ≤ i ∧ m = ((bs s).take i).count c) (fun _ v7 => (s.size - intOf v7).toNat)
  case atStart => exact ⟨0, 0, by omega, rfl, rfl, by omega, by simp⟩
  case round =>
    obtain ⟨i, m, hi, rfl, rfl, hmi, hm⟩ := hrel
    have HMM := Lib.hid hm
    clear hm
    by_cases hlt : i < s.size
    · obtain ⟨x, hx⟩ : ∃ x, s[i].toNat = x := ⟨_, rfl⟩
      have HX : Hid ((bs s).getD i 0 = x) := by unfold Hid; rw [← hx, get_bs s i hlt]
      have HT := Lib.hid (count_take_succ (bs s) c i (by rw [length_bs]; exact hlt))
      rw [HX.out] at HT
      by_cases hxc : x = c
      · subst hxc
        go_wp2_with fail
        go_round
        case rel => exact ⟨i + 1, m + 1, by omega, by go_num, by go_num, by omega, by rw [HT.out, if_pos rfl, HMM.out]⟩
        case measure => simp [intOf]; omega
      · have hb : ((x : Int) == (c : Int)) = false := by rw [beq_eq_false_iff_ne]; omega
        have HXC := Lib.hid hxc
        clear hxc
        go_wp2_with fail
        go_round
        case rel => exact ⟨i + 1, m, by omega, by go_num, rfl, by omega, by rw [HT.out, if_neg HXC.out, HMM.out]; rfl⟩
        case measure => simp [intOf]; omega
    · have hme : m = M := by rw [HMM.out, HM.out, List.take_of_length_le (by rw [length_bs]; omega)]
      subst hme
      clear hmi
      have HO0 : Hid (Owns (w2.alloc (.cells #[] 5)) n0 5 (.slice (some ⟨w2.heap.size, 0, none⟩) 0 0) []) := Owns.lit (l := []) w2 _ HZ2.out (by simp [nums]) (by show 0 ≤ maxLen; decide)
      go_wp2_with fail
      go_loopw [8, 9] (fun v8 v9 wr => ∃ (k j : Nat), k ≤ s.size ∧ v9 = .int .i64 (j : Nat) ∧ j ≤ m ∧ j = ((bs s).take k).count c ∧ Owns wr n0 5 v8 ((bs s).take k) ∧ IsC wr b 70 s k ∧ v8.ownBlock ≠ some b ∧ Below n0 w wr) (fun _ v9 _ => (m - intOf v9).toNat)
      case atStart =>
        refine ⟨0, 0, by omega, rfl, by omega, by simp, by simpa using HO0.out, HC2.out.below ((Below.refl _ _).alloc (Nat.le_refl _) _) HC2.out.lt, ?_, HB2.out.alloc HZ2.out _⟩
        intro e
        simp only [Value.ownBlock, Option.some.injEq] at e
        have := HC2.out.lt
        omega
      case round =>
        obtain ⟨k, j, hk, rfl, hj, hjc, hown, hcu, hne, hbe⟩ := hrel
        obtain ⟨p8, c8, rfl⟩ := hown.shape
        have hlk : ((bs s).take k).length = k := by rw [List.length_take, length_bs]; omega
        rw [hlk] at hown hne ⊢
        have HO := Lib.hid hown
        have HCU := Lib.hid hcu
        have HNE := Lib.hid hne
        have HBE := Lib.hid hbe
        have HJC := Lib.hid hjc
        have HZE : Hid (n0 ≤ wr.heap.size) := by unfold Hid; have := HBN.out; have := hcu.lt; omega
        have HLK := Lib.hid hlk
        clear hown hcu hne hbe hjc hlk
        by_cases hlt : j < m
        · obtain ⟨n, hn⟩ : ∃ n, n = ((bs s).drop k).idxOf c := ⟨_, rfl⟩
          obtain ⟨p1, p2, p3, p4⟩ := parts_step (bs s) c k (by rw [length_bs]; exact hk) (by rw [← HJC.out, ← HM.out]; exact hlt)
          rw [← hn, length_bs] at p1
          rw [← hn] at p2 p3 p4
          obtain ⟨t, ht⟩ : ∃ t, t = s.extract k (k + n) := ⟨_, rfl⟩
          have htl : till s k c = (t, 0, k + n + 1) := by unfold till; rw [← hn, if_pos p1, ht]
          have hbt : bs t = ((bs s).drop k).take n := by rw [ht, bs_extract, Nat.add_sub_cancel_left]
          have hts : t.size = n := by rw [← length_bs, hbt, List.length_take, List.length_drop, length_bs]; omega
          have HP2 := Lib.hid p2
          have HP3 := Lib.hid p3
          have HP4 : Hid (∀ j, j < n → (bs t).getD j 0 ≠ c) := fun j hj => by
            rw [hbt, List.getD_eq_getElem?_getD, List.getElem?_take, if_pos hj, ← List.getD_eq_getElem?_getD]; exact p4 j hj
          have HBT := Lib.hid hbt
          have HTS := Lib.hid hts
          have hn2 : n ≤ 4194304 := by omega
          have hkn : k + n + 1 ≤ s.size := by omega
          have hU := untilCW wr c hc HCU.out
          rw [htl] at hU
          have HUU := Lib.hid hU
          clear p1 p2 p3 p4 ht htl hbt hts hn hU
          go_wp2_with fail
          refine HUU.out.mono ?_
          rintro e w3 ⟨rfl, hc3, hg3⟩
          have HC3 := Lib.hid hc3
          have HB3 := Lib.hid (HBE.out.trans (grown_below hg3 HBN.out HZE.out))
          have HZ3 := Lib.hid (Nat.le_trans HZE.out hg3.size)
          have HO3 := Lib.hid (HO.out.grown hg3 (.inr HNE.out))
          clear hc3 hg3 HUU
          go_wp2_with fail
          have hts' := HTS.out
          go_loop [12] (fun v12 => ∃ i : Nat, i ≤ n ∧ v12 = .int .i64 (i : Nat)) (fun v12 => (n - intOf v12).toNat)
          case atStart => exact ⟨0, by omega, rfl⟩
          case round =>
            obtain ⟨i, hi, rfl⟩ := hrel
            by_cases hit : i < n
            · have hit2 : i < t.size := by omega
              obtain ⟨x, hx⟩ : ∃ x, t[i].toNat = x := ⟨_, rfl⟩
              have hxn : ((x : Int) == (c : Int)) = false := by
                rw [beq_eq_false_iff_ne]
                have := HP4.out i hit
                rw [← get_bs t i hit2, hx] at this
                omega
              clear hts'
              have hii : (i : Int) < (t.size : Int) := by omega
              go_wp2_with fail
              go_round
              case rel => exact ⟨i + 1, by omega, by go_num⟩
              case measure => simp [intOf]; omega
            · have hti : ¬ (i : Int) < (t.size : Int) := by omega
              clear hts'
              go_wp2_with (at_builtin; refine wpList_append_str rfl (.tmp 63) (.tmp 64) 36 9 rfl Tryd.underlying36 Tryd.underlying9 infoU8 rfl HO3.out t rfl ?n1 HZ3.out ?_)
              case n1 => have := HTS.out; have := HLK.out; omega
              intro v4 w4 ho4 hg4 hv4
              have hl4 : ((bs s).take k ++ bs t).length = k + n := by rw [List.length_append, HLK.out, length_bs, HTS.out]
              obtain ⟨p4, c4, rfl⟩ := ho4.shape
              rw [hl4] at ho4 hv4 ⊢
              have HO4 := Lib.hid ho4
              have HC4 := Lib.hid (HC3.out.same (hg4.block b HC3.out.lt (fun e => HNE.out e.symm)))
              have HB4 := Lib.hid (HB3.out.grown hg4 HZ3.out (fun x hx => (HO3.out.block hx).1))
              have HZ4 := Lib.hid (Nat.le_trans HZ3.out hg4.size)
              have HN4 : Hid ((Value.slice p4 (k + n) c4).ownBlock ≠ some b) := by
                rcases hv4 with h | h
                · intro e; rw [e] at h; exact HNE.out h.symm
                · intro e; rw [e] at h; injection h with h; have := HC3.out.lt; omega
              clear ho4 hg4 hv4 hl4
              have HO4a : Hid (Owns (w4.alloc (.cells #[.int .u8 (c : Int)] 5)) n0 5 (.slice p4 (k + n) c4) ((bs s).take k ++ bs t)) := HO4.out.alloc _
              go_wp2_with (at_builtin; refine wpList_append_bytes rfl (.tmp 65) (.tmp 67) 36 rfl Tryd.underlying36 infoU8 rfl HO4a.out ⟨w4.heap.size, 0, none⟩ 1 1 [c] rfl rfl ?n2 ?n3 ?n4 ?_)
              case n2 => intro j hj; obtain rfl : j = 0 := (by omega); simp [Addr.add]
              case n3 => rw [List.length_append, HLK.out, length_bs]; have := HTS.out; omega
              case n4 => have := HZ4.out; simp; omega
              intro v5 w5 ho5 hg5 hv5
              have hl5 : ((bs s).take k ++ (bs t ++ [c])) = (bs s).take (k + (n + 1)) := by rw [HP2.out, HBT.out]
              rw [hl5] at ho5
              have hl6 : ((bs s).take (k + (n + 1))).length = k + n + 1 := by rw [List.length_take, length_bs]; omega
              obtain ⟨p5, c5, rfl⟩ := ho5.shape
              rw [hl6] at ho5 hv5 ⊢
              have HO5 := Lib.hid ho5
              have HC5 := Lib.hid ((HC4.out.below ((Below.refl _ _).alloc (Nat.le_refl _) (.cells #[.int .u8 (c : Int)] 5)) HC4.out.lt).same (hg5.block b (by have := HC4.out.lt; simp; omega) (fun e => HN4.out e.symm)))
              have HB5 := Lib.hid ((HB4.out.alloc HZ4.out (.cells #[.int .u8 (c : Int)] 5)).grown hg5 (by have := HZ4.out; simp; omega) (fun x hx => (HO4.out.block hx).1))
              have HN5 : Hid ((Value.slice p5 (k + n + 1) c5).ownBlock ≠ some b) := by
                rcases hv5 with h | h
                · intro e; rw [e] at h; exact HN4.out h.symm
                · intro e; rw [e] at h; injection h with h; have := HC4.out.lt; omega
              clear ho5 hg5 hv5 hl5 hl6
              go_wp2_with fail
              refine (atCW w5 HC5.out).mono ?_
              rintro e w6 ⟨rfl, h6⟩
              rw [h6]
              clear h6
              go_wp2_with fail
              refine (leftCW w5 HC5.out).mono ?_
              rintro e w6 ⟨rfl, rfl⟩
              go_wp2_with fail
              refine ⟨⟨k + n + 1, j + 1, by omega, rfl, by omega, ?_, ?_, HC5.out.drew, HN5.out, HB5.out.drew⟩, by simp [intOf]; omega⟩
              · rw [show k + n + 1 = k + (n + 1) by omega, HP3.out, HJC.out]
              · rw [show k + n + 1 = k + (n + 1) by omega]; exact HO5.out.below (Below.refl _ _).drew
        · have htl : till s k c = (⟨#[]⟩, 17, k) := by
            unfold till
            rw [if_neg]
            have := parts_end (bs s) c k (by rw [length_bs]; exact hk) (by rw [← HJC.out, ← HM.out]; exact hlt)
            rwa [length_bs] at this
          have hU := untilCW wr c hc HCU.out
          rw [htl] at hU
          have HUU := Lib.hid hU
          clear htl hU
          go_wp2_with fail
          refine HUU.out.mono ?_
          rintro e w3 ⟨rfl, hc3, hg3⟩
          have HC3 := Lib.hid hc3
          have HB3 := Lib.hid (HBE.out.trans (grown_below hg3 HBN.out HZE.out))
          have HZ3 := Lib.hid (Nat.le_trans HZE.out hg3.size)
          have HO3 := Lib.hid (HO.out.grown hg3 (.inr HNE.out))
          clear hc3 hg3 HUU
          go_wp2_with fail
          refine (leftCW w3 HC3.out).mono ?_
          rintro e w4 ⟨rfl, rfl⟩
          go_wp2_with fail
          have hT := takeCW w3.drew ((s.size : Int) - (k : Nat)) HC3.out.drew (by omega) (by omega)
          have htk : took s k ((s.size : Int) - (k : Nat)) = (s.extract k s.size, 0, s.size) := by
            unfold took
            rw [if_neg (by omega), if_neg (by omega), show ((s.size : Int) - (k : Nat)).toNat = s.size - k by omega, show k + (s.size - k) = s.size by omega]
          rw [htk] at hT
          refine hT.mono ?_
          rintro e w5 ⟨rfl, hc5, hg5⟩
          have HB5 := Lib.hid (HB3.out.drew.trans (grown_below hg5 HBN.out HZ3.out))
          have HO5 := Lib.hid ((HO3.out.below (Below.refl _ _).drew).grown hg5 (.inr HNE.out))
          have hall : strOf ((bs s).take k) ++ s.extract k s.size = s := by
            apply bs_inj
            rw [bs_append, bs_strOf _ (fun x hx => bs_lt s x (List.mem_of_mem_take hx)), bs_from, List.take_append_drop]
          have heq : ((strOf ((bs s).take k) ++ s.extract k s.size).toList == s.toList) = true := by rw [hall]; exact beq_self_eq_true _
          clear hT htk hc5 hg5
          have HALL := Lib.hid hall
          have hz1 : (strOf ((bs s).take k)).size ≤ 4194304 := by rw [size_strOf, List.length_take, length_bs]; omega
          have hz2 : (s.extract k s.size).size ≤ 4194304 := by rw [ByteArray.size_extract]; omega
          clear hall
          go_wp2_with (refine wpList_owned_string_w (by rfl) 36 9 (.tmp 104) (by rfl) Tryd.underlying36 Tryd.underlying5 Tryd.underlying9 (by rfl) HO5.out ?_)
          go_ret
          exact ⟨rfl, HB5.out⟩
end Go.Proofs.YthdoeaiehajofaaDoor
