/- The program's runes: of UTF-8. -/
import Derived.Test.YthdoeaiehajofaaDoorTInts
import Derived.Test.YthdoeaiehajofaaDoorTCur3
import Derived.Lib.OthersKept
namespace Go.Proofs.YthdoeaiehajofaaDoor
set_option linter.unusedVariables false
set_option maxRecDepth 20000
open Go.RowKit
/-- What runes answers. -/
def RunesPost (w : World) (s : ByteArray) (e : Ending) (w' : World) : Prop := Below w.heap.size w w' ∧
  ((∃ rs v, U.Is (bs s) rs ∧ e = .returned (.tuple #[v, .nilIface]) ∧ OwnsZ w' w.heap.size 21 .i32 v (rs.map Int.ofNat)) ∨
   ((∀ rs, ¬ U.Is (bs s) rs) ∧ ∃ p, e = .returned (.tuple #[.slice none 0 0, TErr p 12])))
theorem prefix_fffd (t : ByteArray) : Lib.hasPrefix t.data.toList [239, 191, 189] = true → ∃ x, bs t = U.enc 65533 ++ x := by
  intro h
  unfold Lib.hasPrefix at h
  obtain ⟨x, hx⟩ := List.isPrefixOf_iff_prefix.1 h
  refine ⟨x.map (·.toNat), ?_⟩
  unfold bs
  rw [← hx]
  rfl
theorem prefix_fffd2 (t : ByteArray) (x : List Nat) (h : bs t = U.enc 65533 ++ x) : Lib.hasPrefix t.data.toList [239, 191, 189] = true := by
  unfold Lib.hasPrefix
  rw [List.isPrefixOf_iff_prefix]
  have e : (bs t).take 3 = [239, 191, 189] := by rw [h]; rfl
  unfold bs at e
  rw [← List.map_take] at e
  refine ⟨t.data.toList.drop 3, ?_⟩
  have e2 : t.data.toList.take 3 = [239, 191, 189] := by
    have h3 : (t.data.toList.take 3).map (fun c => UInt8.ofNat c.toNat) = t.data.toList.take 3 := by
      conv => rhs; rw [← List.map_id (t.data.toList.take 3)]
      exact List.map_congr_left fun c _ => by simp
    rw [← h3, ← Function.comp_def UInt8.ofNat UInt8.toNat, ← List.map_map, e]; rfl
  rw [← e2, List.take_append_drop]
theorem szA (w : World) (o : Obj) : (w.alloc o).heap.size = w.heap.size + 1 := by simp
theorem Below.iterSize {w : World} (k : Nat) (s : ByteArray) (p : Nat) : (w.iterAt k s p).heap.size = w.heap.size := Lib.iterAt_size w k s p
theorem iter_grown {w w' : World} {k : Nat} {s : ByteArray} {pos : Nat} (h : w.heap[k]? = some (.stringIter s pos)) {row : Option Nat} (hg : w.grownBy w' row) (hr : row ≠ some k) : w'.heap[k]? = some (.stringIter s pos) := by
  rw [hg.block k (Array.getElem?_eq_some_iff.1 h).1 (Ne.symm hr)]; exact h
theorem iterAt_grown (w : World) (k : Nat) (s : ByteArray) (p : Nat) : w.grownBy (w.iterAt k s p) (some k) :=
  ⟨rfl, rfl, rfl, by rw [Lib.iterAt_size]; exact Nat.le_refl _, fun j hj hn => Lib.iterAt_other w k j s p (by rintro rfl; exact hn rfl)⟩
theorem encs_len (rs : List Nat) : rs.length ≤ (U.encs rs).length := by
  induction rs with
  | nil => simp
  | cons r rs ih => rw [U.encs_cons, List.length_append, List.length_cons]; have := (U.enc_length r).1; omega
/-- The runes so far. -/
structure RR (w wr : World) (K : Nat) (s : ByteArray) (pos : Nat) (rs : List Nat) (v : Value) : Prop where
  le : pos ≤ s.size
  tk : (bs s).take pos = U.encs rs
  ok : ∀ r ∈ rs, U.may r
  own : OwnsZ wr w.heap.size 21 .i32 v (rs.map Int.ofNat)
  it : wr.heap[K]? = some (.stringIter s pos)
  bel : Below w.heap.size w wr
  ne : v.ownBlock ≠ some K
theorem RR.len {w wr : World} {K : Nat} {s : ByteArray} {pos : Nat} {rs : List Nat} {v : Value} (h : RR w wr K s pos rs v) : rs.length ≤ pos := by
  have h1 := encs_len rs
  rw [← h.tk, List.length_take] at h1
  omega
theorem RR.is {w wr : World} {K : Nat} {s : ByteArray} {rs : List Nat} {v : Value} {pos : Nat} (h : RR w wr K s pos rs v) (hp : ¬ pos < s.size) : U.Is (bs s) rs :=
  ⟨by have := h.tk; rwa [List.take_of_length_le (by rw [length_bs]; omega)] at this, h.ok⟩
/-- A place at which no rune stands. -/
theorem RR.not {w wr : World} {K : Nat} {s : ByteArray} {rs : List Nat} {v : Value} {pos : Nat} (h : RR w wr K s pos rs v) (hp : pos < s.size) (hn : ∀ n x, U.may n → (bs s).drop pos ≠ U.enc n ++ x) : ∀ us, ¬ U.Is (bs s) us := by
  intro us hu
  have e : bs s = U.encs rs ++ (bs s).drop pos := by rw [← h.tk, List.take_append_drop]
  rw [e] at hu
  obtain ⟨ts, _, h2⟩ := U.Is.cancel h.ok hu
  cases ts with
  | nil =>
    have := congrArg List.length h2.1
    rw [List.length_drop, length_bs] at this
    simp [U.encs_nil] at this
    omega
  | cons t ts => exact hn t (U.encs ts) (h2.2 t (by simp)) (by rw [h2.1, U.encs_cons])
/-- A step. -/
theorem RR.step {w wr : World} {K : Nat} {s : ByteArray} {pos : Nat} {rs : List Nat} {v : Value} (h : RR w wr K s pos rs v) (hK : w.heap.size ≤ K) (r n : Nat) (hr : U.may r) (hd : (bs s).drop pos = U.enc r ++ (bs s).drop (pos + n)) (hn : n = (U.enc r).length) {v' : Value} {w' : World}
    (ho : OwnsZ w' w.heap.size 21 .i32 v' ((rs ++ [r]).map Int.ofNat)) (hg : ((wr.iterAt K s (pos + n)).alloc (.cells #[.int .i32 (r : Nat)] 21)).grownBy w' v.ownBlock)
    (hv : v'.ownBlock = v.ownBlock ∨ v'.ownBlock = some ((wr.iterAt K s (pos + n)).alloc (.cells #[.int .i32 (r : Nat)] 21)).heap.size) : RR w w' K s (pos + n) (rs ++ [r]) v' := by
  have hK2 : K < wr.heap.size := (Array.getElem?_eq_some_iff.1 h.it).1
  have hl : pos + n ≤ s.size := by
    have := congrArg List.length hd
    rw [List.length_append, List.length_drop, List.length_drop, length_bs, ← hn] at this
    have := h.le
    have := (U.enc_length r).1
    omega
  have hsz : w.heap.size ≤ (wr.iterAt K s (pos + n)).heap.size := by rw [Lib.iterAt_size]; exact h.bel.size
  refine ⟨hl, ?_, fun x hx => (List.mem_append.1 hx).elim (h.ok x) (fun e => by rw [List.mem_singleton.1 e]; exact hr), ho, ?_, ?_, ?_⟩
  · have e : bs s = U.encs rs ++ (U.enc r ++ (bs s).drop (pos + n)) := by rw [← hd, ← h.tk, List.take_append_drop]
    have h1 : (U.encs rs).length = pos := by rw [← h.tk, List.length_take, length_bs, Nat.min_eq_left h.le]
    rw [U.encs_append, show U.encs [r] = U.enc r by simp [U.encs]]
    conv => lhs; rw [e]
    rw [← List.append_assoc, List.take_append_of_le_length (by rw [List.length_append]; omega), List.take_of_length_le (by rw [List.length_append]; omega)]
  · exact iter_grown ((Below.heap_alloc _ _ K (by rw [Lib.iterAt_size]; exact hK2)).trans (Lib.iterAt_heap wr K s pos _ h.it)) hg h.ne
  · exact ((Lib.below_iterAt h.bel hK s _).alloc hsz _).grown hg (by rw [szA]; omega) (fun k hk => (h.own.block hk).1)
  · rcases hv with e | e
    · rw [e]; exact h.ne
    · rw [e]; intro e2; injection e2 with e2; rw [szA, Lib.iterAt_size] at e2; omega
set_option maxHeartbeats 4000000 in
theorem runesW (s : ByteArray) (w : World) (hgl : Glob w) (hs : s.size ≤ 16777216) : Calls Tryd.prog 38 #[.string s] w (RunesPost w s) := by
  obtain ⟨K, hK⟩ : ∃ K, K = w.heap.size := ⟨_, rfl⟩
  have HG := Lib.hid hgl
  have KK := Lib.hid hK
  go_enter Tryd.func38, Tryd.ntmps38
  go_wp2_with fail
  rw [← hK]
  go_loopw [4] (fun v4 wr => ∃ (pos : Nat) (rs : List Nat), RR w wr K s pos rs v4) (fun _ wr => s.size - wr.iterPos K)
  case atStart =>
    refine ⟨0, [], Nat.zero_le _, rfl, by simp, OwnsZ.nil _ _ _ _, ?_, (Below.refl _ _).alloc (Nat.le_refl _) _, by simp [Value.ownBlock]⟩
    rw [hK]; exact World.iter_heap w s 0
  case round =>
    obtain ⟨pos, rs, hr⟩ := hrel
    clear hK hgl
    have hm : wr.iterPos K = pos := by unfold World.iterPos; rw [hr.it]
    have HR := Lib.hid hr
    have HM := Lib.hid hm
    clear hm
    obtain ⟨vp, vc, rfl⟩ := hr.own.shape
    obtain ⟨L, hL⟩ : ∃ L, L = (rs.map Int.ofNat).length := ⟨_, rfl⟩
    rw [← hL] at hr HR ⊢
    have HL := Lib.hid hL
    by_cases hp : pos < s.size
    · have hde := U.decode_is s pos hp
      have hnx : ∀ ty, (Instr.next (.pointer (some ⟨K, 0, none⟩)) true ty).run Tryd.prog wr = _ := fun ty => Lib.run_next_any_at wr K s pos ty hr.it hp
      obtain ⟨⟨r, n⟩, hrn⟩ : ∃ x, x = Utf8.decode s pos := ⟨_, rfl⟩
      rw [← hrn] at hnx hde
      dsimp only at hnx hde
      have HP := Lib.hid hp
      have hKw : w.heap.size ≤ K := by rw [KK.out]; exact Nat.le_refl _
      have HKW := Lib.hid hKw
      obtain ⟨t, ht⟩ : ∃ t, t = s.extract pos s.size := ⟨_, rfl⟩
      have hle := hr.le
      have hlen : L ≤ 16777216 := by rw [hL, List.length_map]; have := hr.len; omega
      have hcut : ∀ w, (Instr.slice 9 (.string s) (some (.int .i64 (pos : Int))) none none).run Tryd.prog w = .ok (.string t) w := fun w => by rw [ht]; exact cutFrom s _ pos rfl hle w
      have hbt : bs t = (bs s).drop pos := by rw [ht, bs_from]
      have HS2 : Hid (w.heap.size ≤ (wr.iterAt K s (pos + n)).heap.size) := by unfold Hid; rw [Lib.iterAt_size]; exact hr.bel.size
      have HO2 : Hid (OwnsZ ((wr.iterAt K s (pos + n)).alloc (.cells #[.int .i32 (r : Nat)] 21)) w.heap.size 21 .i32 (.slice vp L vc) (rs.map Int.ofNat)) :=
        (hr.own.grown (iterAt_grown wr K s (pos + n)) (.inr hr.ne)).alloc _
      rcases hde with ⟨d1, d2, d3⟩ | ⟨d1, d2, d3⟩
      · have hr31 : r ≤ 1114111 := d1.1
        have D1 := Lib.hid d1
        have D2 := Lib.hid d2
        have D3 := Lib.hid d3
        have HE : Hid (∀ (v' : Value) (w' : World), OwnsZ w' w.heap.size 21 .i32 v' (rs.map Int.ofNat ++ [(r : Int)]) → ((wr.iterAt K s (pos + n)).alloc (.cells #[.int .i32 (r : Nat)] 21)).grownBy w' (Value.slice vp L vc).ownBlock → (v'.ownBlock = (Value.slice vp L vc).ownBlock ∨ v'.ownBlock = some ((wr.iterAt K s (pos + n)).alloc (.cells #[.int .i32 (r : Nat)] 21)).heap.size) → RR w w' K s (pos + n) (rs ++ [r]) v') := fun v' w' h1 h2 h3 =>
          HR.out.step HKW.out r n D1.out D2.out D3.out (by rw [List.map_append]; exact h1) h2 h3
        have hpre : r = 65533 → ∀ w, Calls Tryd.prog 55 #[.string t, .string ⟨#[239, 191, 189]⟩] w fun e w' => e = .returned (.bool true) ∧ w' = w := fun e w => by
          refine (Tryd.strings_HasPrefix t ⟨#[239, 191, 189]⟩ w).mono fun e' w' he => ?_
          rw [prefix_fffd2 t _ (hbt.trans (by rw [e] at d2; exact d2))] at he
          exact he
        have HPR := Lib.hid hpre
        have hn1 : 1 ≤ n := by rw [d3]; exact (U.enc_length r).1
        clear hr hL hp hrn d2 d3 hbt hpre ht HR d1 hKw
        by_cases h33 : r = 65533
        · subst h33
          go_wp2_with (first | (go_at_call 55; refine (HPR.out rfl _).mono ?_; rintro e w' ⟨rfl, rfl⟩) | (at_builtin; refine wpList_append_z rfl _ _ _ rfl Tryd.underlying58 infoI32 (by decide) rfl HO2.out ⟨(wr.iterAt K s (pos + n)).heap.size, 0, none⟩ 1 1 [(65533 : Int)] rfl rfl ?d1 ?d2 ?d3 ?_))
          case d1 =>
            intro j hj
            obtain rfl : j = 0 := by omega
            simp [Addr.add]
          case d2 => rw [← HL.out]; omega
          case d3 => have := HS2.out; simp; omega
          intro v5 w5 ho5 hg5 hv5
          have R := Lib.hid (HE.out v5 w5 ho5 hg5 (by rw [szA]; exact hv5))
          clear ho5 hg5 hv5 HE HO2 HPR
          go_wp2_with fail
          refine ⟨⟨_, _, R.out⟩, ?_⟩
          have : w5.iterPos K = pos + n := by unfold World.iterPos; rw [R.out.it]
          rw [this, HM.out]
          have := HP.out
          omega
        · have hb : ((r : Int) == 65533) = false := by rw [beq_eq_false_iff_ne]; omega
          have H33 := Lib.hid h33
          clear h33
          go_wp2_with (at_builtin; refine wpList_append_z rfl _ _ _ rfl Tryd.underlying58 infoI32 (by decide) rfl HO2.out ⟨(wr.iterAt K s (pos + n)).heap.size, 0, none⟩ 1 1 [(r : Int)] rfl rfl ?d1 ?d2 ?d3 ?_)
          case d1 =>
            intro j hj
            obtain rfl : j = 0 := by omega
            simp [Addr.add]
          case d2 => rw [← HL.out]; omega
          case d3 => have := HS2.out; simp; omega
          intro v5 w5 ho5 hg5 hv5
          have R := Lib.hid (HE.out v5 w5 ho5 hg5 (by rw [szA]; exact hv5))
          clear ho5 hg5 hv5 HE HO2 HPR
          go_wp2_with fail
          refine ⟨⟨_, _, R.out⟩, ?_⟩
          have : w5.iterPos K = pos + n := by unfold World.iterPos; rw [R.out.it]
          rw [this, HM.out]
          have := HP.out
          omega
      · subst d1 d2
        have hpre : ∀ w, Calls Tryd.prog 55 #[.string t, .string ⟨#[239, 191, 189]⟩] w fun e w' => e = .returned (.bool false) ∧ w' = w := fun w => by
          refine (Tryd.strings_HasPrefix t ⟨#[239, 191, 189]⟩ w).mono fun e' w' he => ?_
          have : Lib.hasPrefix t.data.toList [239, 191, 189] = false := by
            cases hc : Lib.hasPrefix t.data.toList [239, 191, 189]
            · rfl
            · obtain ⟨x, hx⟩ := prefix_fffd t hc
              exact absurd (hbt.symm.trans hx) (d3 65533 x (by decide))
          rw [show (⟨#[239, 191, 189]⟩ : ByteArray).data.toList = [239, 191, 189] from rfl, this] at he
          exact he
        have HPR := Lib.hid hpre
        have HX := Lib.hid (hr.not hp d3)
        have HB := Lib.hid (Lib.below_iterAt hr.bel HKW.out s (pos + 1))
        have HA : Hid (∀ w0, w0 = wr.iterAt K s (pos + 1) → Calls Tryd.prog 47 #[.int .i64 (pos : Nat), .int .i64 12] w0 fun ev w' => (∃ s, ev = .returned (TErr s 12)) ∧ Below w0.heap.size w0 w') := fun w0 e => by
          subst e
          exact atW (pos : Nat) 12 (by omega) (by omega) _ (HG.out.below HB.out HG.out.lt)
        clear hr hL hp hrn d3 hbt hpre ht HR hKw HO2
        go_wp2_with (first | (go_at_call 55; refine (HPR.out _).mono ?_; rintro e w' ⟨rfl, rfl⟩) | (go_at_call 47; refine (HA.out _ rfl).mono ?_; rintro e w5 ⟨⟨p, rfl⟩, hb5⟩))
        go_ret2
        exact ⟨HB.out.trans (hb5.mono HB.out.size), .inr ⟨HX.out, p, rfl⟩⟩
    · have hnx : ∀ ty, (Instr.next (.pointer (some ⟨K, 0, none⟩)) true ty).run Tryd.prog wr = _ := fun ty => Lib.run_next_end_at wr K s pos ty hr.it hp
      have HP := Lib.hid hp
      clear hr hL
      go_wp2_with fail
      go_ret2
      exact ⟨HR.out.bel, .inl ⟨rs, _, HR.out.is HP.out, rfl, HR.out.own⟩⟩
end Go.Proofs.YthdoeaiehajofaaDoor
