/- The walk of the reference's Mac, of either kind. (Written by gen_mac.py.) -/
import Derived.Test.YtjlhckgokdjajaaRSum
import Derived.Test.YtjlhckgokdjajaaKeysLaw
namespace Go.Proofs.Ytjlhckgokdjajaa
open Go.RowKit
/-- Both padded keys, as far as they go. -/
structure Pads (wr : World) (base : Nat) (W3 : World) (key : ByteArray) (i : Nat) (va vb : Value) : Prop where
  a : Owns wr base 5 va (pads key 92 i)
  b : Owns wr base 5 vb (pads key 54 i)
  ne : ∀ g, va.ownBlock = some g → vb.ownBlock ≠ some g
  bel : Below base W3 wr
noncomputable def macLoopC : Code := (((Try.f27.body.map loopsOf).getD [])[0]?).getD .skip
set_option maxRecDepth 1000000 in
set_option maxHeartbeats 4000000 in
theorem macLoop (wd : Nat) (hwd : wd ≤ 64) (base b0 : Nat) (hb0 : base < b0) (k2 : ByteArray) (W3 w0 : World) (hW3 : b0 ≤ W3.heap.size) (va0 vb0 : Value) (Q0 : Exit → Act → World → Prop) (c0 c2 c4 c5 c6 c10 c11 c12 c13 c14 c15 c16 c17 c18 c19 c20 c21 c22 c23 c24 c25 c26 c27 c28 c29 c30 c31 c32 c33 c34 c35 c36 c37 c38 c39 c40 c41 c42 c43 c44 c45 c46 c47 c48 c49 c50 c51 c52 c53 c54 c55 c56 : Value)
    (hc : W3.cell? ⟨base, 0, none⟩ = some (.int .i64 (wd : Nat))) (hp : Pads w0 b0 W3 k2 0 va0 vb0)
    (hexit : ∀ (u9 u10 u22 u23 u24 u25 u26 u27 u28 u29 u30 u31 u32 u33 u34 u35 u36 u37 u38 u39 u40 u41 u42 u43 u44 u45 va vb : Value) (w' : World), Pads w' b0 W3 k2 (2 * wd) va vb → Q0 (.exit 0) ⟨#[c0, (.string k2), c2, (.pointer (some ⟨base, 0, none⟩)), c4, c5, c6, va, vb, u9, u10, c11, c12, c13, c14, c15, c16, c17, c18, c19, c20, c21, u22, u23, u24, u25, u26, u27, u28, u29, u30, u31, u32, u33, u34, u35, u36, u37, u38, u39, u40, u41, u42, u43, u44, u45, c46, c47, c48, c49, c50, c51, c52, c53, c54, c55, c56], []⟩ w') :
    Code.wp Try.prog macLoopC Q0 ⟨#[c0, (.string k2), c2, (.pointer (some ⟨base, 0, none⟩)), c4, c5, c6, va0, vb0, (.int .i64 0), c10, c11, c12, c13, c14, c15, c16, c17, c18, c19, c20, c21, c22, c23, c24, c25, c26, c27, c28, c29, c30, c31, c32, c33, c34, c35, c36, c37, c38, c39, c40, c41, c42, c43, c44, c45, c46, c47, c48, c49, c50, c51, c52, c53, c54, c55, c56], []⟩ w0 := by
  have HP0 := Lib.hid hp
  have HC := Lib.hid hc
  clear hp hc
  dsimp only at hexit ⊢
  have HEX := Lib.hid hexit
  clear hexit
  conv => arg 2; whnf
  go_loopw [7, 8, 9] (fun va vb vi wr => ∃ i : Nat, i ≤ 2 * wd ∧ vi = .int .i64 (i : Nat) ∧ Pads wr b0 W3 k2 i va vb) (fun _ _ vi _ => (2 * wd - intOf vi).toNat)
  case atStart => exact ⟨0, by omega, rfl, HP0.out⟩
  case round =>
    obtain ⟨i, hi, rfl, hp⟩ := hrel
    have HP := Lib.hid hp
    have q1 : wr.cell? ⟨base, 0, none⟩ = some (.int .i64 (wd : Nat)) := (hp.bel.cell (p := ⟨base, 0, none⟩) hb0).trans HC.out
    clear hp
    by_cases hil : i < 2 * wd
    · by_cases hik : i < k2.size
      · have CI : (((bs k2).getD i 0 : Nat) : Int) = (k2[i].toNat : Int) := by
          have hl : i < (bs k2).length := by rw [length_bs]; exact hik
          rw [List.getD_eq_getElem?_getD, List.getElem?_eq_getElem hl]; simp [bs]; rfl
        have hX0 := bits_pad k2 92 i (by decide)
        have hY0 := bits_pad k2 54 i (by decide)
        obtain ⟨X, hXX⟩ : ∃ X, X = (bs k2).getD i 0 ^^^ 92 := ⟨_, rfl⟩
        obtain ⟨Y, hYY⟩ : ∃ X, X = (bs k2).getD i 0 ^^^ 54 := ⟨_, rfl⟩
        rw [← hXX, CI] at hX0
        rw [← hYY, CI] at hY0
        have hX : bits .xor .u8 (k2[i].toNat : Int) 92 = (X : Int) := hX0
        have hY : bits .xor .u8 (k2[i].toNat : Int) 54 = (Y : Int) := hY0
        have HXX := Lib.hid hXX
        have HYY := Lib.hid hYY
        clear hXX hYY CI hX0 hY0
        go_wp2_with (at_builtin; refine wpList_append_bytes rfl _ _ 42 rfl Try.underlying42 info5 rfl (HP.out.a.alloc _) ⟨wr.heap.size, 0, none⟩ 1 1 [X] rfl rfl ?c1 ?c2 ?c3 ?_)
        case c1 => intro j hj; obtain rfl : j = 0 := by omega
                   simp [Addr.add]
        case c2 => rw [length_pads]; simp; omega
        case c3 => have := HP.out.bel.size; simp; omega
        intro va w5 hown5 hgrow5 hva
        have hO5 : Owns w5 b0 5 u8 (pads k2 54 i) := (HP.out.b.alloc _).grown hgrow5 (by
          cases hb : u8.ownBlock with
          | none => exact .inl rfl
          | some g => exact .inr (fun h => HP.out.ne g h.symm hb))
        have hs5 := hgrow5.size
        have hbel5 : Below b0 W3 w5 := (HP.out.bel.alloc (by have := HP.out.bel.size; omega) _).grown hgrow5 (by have := HP.out.bel.size; simp; omega) (fun g hg => (HP.out.a.block hg).1)
        simp only [World.size_alloc] at hs5 hva
        have HO5 := Lib.hid hO5
        have HBEL5 := Lib.hid hbel5
        have HOWN5 := Lib.hid hown5
        have HVA := Lib.hid hva
        clear hO5 hbel5 hown5 hva hgrow5
        go_wp2_with (at_builtin; refine wpList_append_bytes rfl _ _ 42 rfl Try.underlying42 info5 rfl (HO5.out.alloc _) ⟨w5.heap.size, 0, none⟩ 1 1 [Y] rfl rfl ?d1 ?d2 ?d3 ?_)
        case d1 => intro j hj; obtain rfl : j = 0 := by omega
                   simp [Addr.add]
        case d2 => rw [length_pads]; simp; omega
        case d3 => have := HBEL5.out.size; simp; omega
        intro vb w6 hown6 hgrow6 hvb
        have hO6 : Owns w6 b0 5 va (pads k2 92 i ++ [X]) := (HOWN5.out.alloc _).grown hgrow6 (by
          cases hb : va.ownBlock with
          | none => exact .inl rfl
          | some g =>
            refine .inr fun h => ?_
            rcases HVA.out with e | e
            · exact HP.out.ne g (e ▸ hb) h.symm
            · have h1 := (HP.out.b.block h.symm).2
              rw [e] at hb
              injection hb with hb
              omega)
        have hbel6 : Below b0 W3 w6 := (HBEL5.out.alloc (by have := HBEL5.out.size; omega) _).grown hgrow6 (by have := HBEL5.out.size; simp; omega) (fun g hg => (HO5.out.block hg).1)
        try simp only [World.size_alloc] at hvb
        have hne6 : ∀ g, va.ownBlock = some g → vb.ownBlock ≠ some g := by
          intro g hg hgb
          have h5 := (HOWN5.out.block hg).2
          rcases hvb with e' | e'
          · rcases HVA.out with e | e
            · exact HP.out.ne g (e ▸ hg) (e' ▸ hgb)
            · have h1 := (HP.out.b.block (e' ▸ hgb)).2
              rw [e] at hg
              injection hg with hg
              omega
          · rw [e'] at hgb
            injection hgb with hgb
            omega
        have R : Hid (Pads w6 b0 W3 k2 (i + 1) va vb) := ⟨by rw [pads_succ, ← HXX.out]; exact hO6, by rw [pads_succ, ← HYY.out]; exact hown6, hne6, hbel6⟩
        clear hO6 hown6 hne6 hbel6 hvb hgrow6 hX hY HO5 HBEL5 HOWN5 HVA
        go_wp2_with fail
        exact ⟨⟨i + 1, by omega, rfl, R.out⟩, by simp [intOf]; omega⟩
      · have CI : (((bs k2).getD i 0 : Nat) : Int) = 0 := by
          rw [Sha.getD_out (by rw [length_bs]; omega)]; rfl
        have hX0 := bits_pad k2 92 i (by decide)
        have hY0 := bits_pad k2 54 i (by decide)
        obtain ⟨X, hXX⟩ : ∃ X, X = (bs k2).getD i 0 ^^^ 92 := ⟨_, rfl⟩
        obtain ⟨Y, hYY⟩ : ∃ X, X = (bs k2).getD i 0 ^^^ 54 := ⟨_, rfl⟩
        rw [← hXX, CI] at hX0
        rw [← hYY, CI] at hY0
        have hX : bits .xor .u8 0 92 = (X : Int) := hX0
        have hY : bits .xor .u8 0 54 = (Y : Int) := hY0
        have HXX := Lib.hid hXX
        have HYY := Lib.hid hYY
        clear hXX hYY CI hX0 hY0
        go_wp2_with (at_builtin; refine wpList_append_bytes rfl _ _ 42 rfl Try.underlying42 info5 rfl (HP.out.a.alloc _) ⟨wr.heap.size, 0, none⟩ 1 1 [X] rfl rfl ?c1 ?c2 ?c3 ?_)
        case c1 => intro j hj; obtain rfl : j = 0 := by omega
                   simp [Addr.add]
        case c2 => rw [length_pads]; simp; omega
        case c3 => have := HP.out.bel.size; simp; omega
        intro va w5 hown5 hgrow5 hva
        have hO5 : Owns w5 b0 5 u8 (pads k2 54 i) := (HP.out.b.alloc _).grown hgrow5 (by
          cases hb : u8.ownBlock with
          | none => exact .inl rfl
          | some g => exact .inr (fun h => HP.out.ne g h.symm hb))
        have hs5 := hgrow5.size
        have hbel5 : Below b0 W3 w5 := (HP.out.bel.alloc (by have := HP.out.bel.size; omega) _).grown hgrow5 (by have := HP.out.bel.size; simp; omega) (fun g hg => (HP.out.a.block hg).1)
        simp only [World.size_alloc] at hs5 hva
        have HO5 := Lib.hid hO5
        have HBEL5 := Lib.hid hbel5
        have HOWN5 := Lib.hid hown5
        have HVA := Lib.hid hva
        clear hO5 hbel5 hown5 hva hgrow5
        go_wp2_with (at_builtin; refine wpList_append_bytes rfl _ _ 42 rfl Try.underlying42 info5 rfl (HO5.out.alloc _) ⟨w5.heap.size, 0, none⟩ 1 1 [Y] rfl rfl ?d1 ?d2 ?d3 ?_)
        case d1 => intro j hj; obtain rfl : j = 0 := by omega
                   simp [Addr.add]
        case d2 => rw [length_pads]; simp; omega
        case d3 => have := HBEL5.out.size; simp; omega
        intro vb w6 hown6 hgrow6 hvb
        have hO6 : Owns w6 b0 5 va (pads k2 92 i ++ [X]) := (HOWN5.out.alloc _).grown hgrow6 (by
          cases hb : va.ownBlock with
          | none => exact .inl rfl
          | some g =>
            refine .inr fun h => ?_
            rcases HVA.out with e | e
            · exact HP.out.ne g (e ▸ hb) h.symm
            · have h1 := (HP.out.b.block h.symm).2
              rw [e] at hb
              injection hb with hb
              omega)
        have hbel6 : Below b0 W3 w6 := (HBEL5.out.alloc (by have := HBEL5.out.size; omega) _).grown hgrow6 (by have := HBEL5.out.size; simp; omega) (fun g hg => (HO5.out.block hg).1)
        try simp only [World.size_alloc] at hvb
        have hne6 : ∀ g, va.ownBlock = some g → vb.ownBlock ≠ some g := by
          intro g hg hgb
          have h5 := (HOWN5.out.block hg).2
          rcases hvb with e' | e'
          · rcases HVA.out with e | e
            · exact HP.out.ne g (e ▸ hg) (e' ▸ hgb)
            · have h1 := (HP.out.b.block (e' ▸ hgb)).2
              rw [e] at hg
              injection hg with hg
              omega
          · rw [e'] at hgb
            injection hgb with hgb
            omega
        have R : Hid (Pads w6 b0 W3 k2 (i + 1) va vb) := ⟨by rw [pads_succ, ← HXX.out]; exact hO6, by rw [pads_succ, ← HYY.out]; exact hown6, hne6, hbel6⟩
        clear hO6 hown6 hne6 hbel6 hvb hgrow6 hX hY HO5 HBEL5 HOWN5 HVA
        go_wp2_with fail
        exact ⟨⟨i + 1, by omega, rfl, R.out⟩, by simp [intOf]; omega⟩
    · have hie : i = 2 * wd := by omega
      have hp := HP.out
      rw [hie] at hp
      have HP2 := Lib.hid hp
      clear hp hie
      go_wp2_with fail
      exact HEX.out _ _ _ _ _ _ _ _ _ _ _ _ _ _ _ _ _ _ _ _ _ _ _ _ _ _ _ _ wr HP2.out
theorem told_le (κ : Sha.Kind) (st : List Nat) : (Sha.told κ st).length ≤ κ.size := by unfold Sha.told; exact List.length_take_le _ _
set_option maxRecDepth 1000000 in
set_option maxHeartbeats 4000000 in
theorem rmacW (κ : Sha.Kind) (cs : Array Value) (R wide gK cK gF cF : Nat) (ka : KAll κ cs R wide gK cK) (kb : KMore κ cs wide gF cF) (key s : ByteArray) (w : World)
    (hk : Cells64 w gK R (fun j => κ.keys.getD j 0)) (hf : Cells64 w gF 8 (fun j => κ.init.getD j 0)) (hks : key.size ≤ 140737488353000) (hs : s.size ≤ 140737488353000) :
    Calls Try.prog 27 #[.agg cs, .string key, .string s] w fun e w' => e = .returned (.string (strOf (Sha.mac κ (bs key) (bs s)))) ∧ Below w.heap.size w w' := by
  have hwl : 4 ≤ wide ∧ wide ≤ 8 := by rcases ka.w4 with h | h <;> omega
  obtain ⟨wd, hwd⟩ : ∃ x, x = κ.w := ⟨_, rfl⟩
  have hwd8 : wd = 8 * wide := by rw [hwd, ka.w8]
  have hbk : κ.block = 2 * wd := by rw [ka.bk, hwd8]; omega
  have hwd64 : wd ≤ 64 := by omega
  have hwd32 : 32 ≤ wd := by omega
  have hsl : ∀ t, (Sha.sum κ t).length ≤ wd := fun t => by
    have h1 := told_le κ (Sha.stateOf κ (t ++ Sha.pad κ t.length))
    have h2 := kb.size
    show (Sha.told κ _).length ≤ _
    omega
  have hc0 : (w.alloc (.cells cs 51)).cell? ⟨w.heap.size, 0, none⟩ = some (.int .i64 (wd : Nat)) := by rw [cell_of_row _ _ 0 _ _ _ (heap_at rfl), kb.h0, hwd]
  have hkl : ∀ t : World, t.heap[w.heap.size]? = some (.cells cs 51 (0, 0)) → (kindLoad (.pointer (some ⟨w.heap.size, 0, none⟩))).run Try.prog t = .ok (.value (.agg cs)) t := fun t h => run_kindLoad _ _ _ ka.kc.n h
  have hsum : ∀ (s : ByteArray) (t : World), Below w.heap.size w t → s.size ≤ 140737488354000 → Calls Try.prog 25 #[.agg cs, .string s] t fun e w' => e = .returned (.string (strOf (Sha.sum κ (bs s)))) ∧ Below t.heap.size t w' := fun s t hb hs =>
    rsumW κ cs R wide gK cK gF cF ka kb s t (fun j hj => (hb.cell (block_lt_of_cell (hk j hj))).trans (hk j hj)) (fun j hj => (hb.cell (block_lt_of_cell (hf j hj))).trans (hf j hj)) hs
  have h0 : cs[0]? = some (.int .i64 (wd : Nat)) := by rw [kb.h0, hwd]
  have HSUM := Lib.hid hsum
  have HSL := Lib.hid hsl
  have HBK := Lib.hid hbk
  have HKL := Lib.hid hkl
  have H0 := Lib.hid h0
  clear hk hf ka kb hwd hwd8 hbk hsl hkl hsum h0
  have hkl1 := HKL.out (w.alloc (.cells cs 51)) (heap_at rfl)
  have HKL1 := Lib.hid hkl1
  clear hkl1
  go_enter Try.func27, Try.ntmps27
  by_cases hlong : 2 * wd < key.size
  have hkl1 := HKL1.out
  go_wp2_with fail
  refine (HSUM.out key _ ((Below.refl _ _).alloc (Nat.le_refl _) _) (by omega)).mono ?_
  rintro e w2 ⟨rfl, hb2⟩
  obtain ⟨k2, hk2⟩ : ∃ k2, k2 = strOf (Sha.sum κ (bs key)) := ⟨_, rfl⟩
  rw [← hk2]
  have hk2s : k2.size ≤ 2 * wd := by rw [hk2, size_strOf]; have := HSL.out (bs key); omega
  have HKEY : Hid (Sha.short κ (bs key) = bs k2) := by
    unfold Hid Sha.short
    rw [if_pos (by rw [HBK.out, length_bs]; exact hlong), hk2, bs_strOf _ (Sha.sum_lt κ _)]
  have hbz : Below w.heap.size w w2 := ((Below.refl _ _).alloc (Nat.le_refl _) _).trans (hb2.mono (by simp))
  have hblk : w2.heap[w.heap.size]? = some (.cells cs 51 (0, 0)) := (hb2.block _ (by simp)).trans (heap_at rfl)
  have hsz : w.heap.size + 1 ≤ w2.heap.size := by have := hb2.size; simp at this; exact this
  have HBZ := Lib.hid hbz
  have HBLK := Lib.hid hblk
  clear hk2 hb2 hc0 hkl1 hlong hbz hblk
  go_wp2_with fail
  rotate_left
  go_wp2_with fail
  obtain ⟨w2, hw2⟩ : ∃ w2, w2 = w.alloc (.cells cs 51) := ⟨_, rfl⟩
  obtain ⟨k2, hk2⟩ : ∃ k2, k2 = key := ⟨_, rfl⟩
  have hz2 : w.heap.size + 1 = w2.heap.size := by rw [hw2]; simp
  rw [← hw2, ← hk2, hz2]
  have hk2s : k2.size ≤ 2 * wd := by rw [hk2]; omega
  have HKEY : Hid (Sha.short κ (bs key) = bs k2) := by
    unfold Hid Sha.short
    rw [if_neg (by rw [HBK.out, length_bs]; exact hlong), hk2]
  have hbz : Below w.heap.size w w2 := by rw [hw2]; exact (Below.refl _ _).alloc (Nat.le_refl _) _
  have hblk : w2.heap[w.heap.size]? = some (.cells cs 51 (0, 0)) := by rw [hw2]; exact heap_at rfl
  have hsz : w.heap.size + 1 ≤ w2.heap.size := by omega
  have HBZ := Lib.hid hbz
  have HBLK := Lib.hid hblk
  clear hk2 hw2 hc0 hlong hbz hblk hz2
  all_goals
    have hO1 : Owns ((w2.alloc (.cells #[] 5)).alloc (.cells #[] 5)) w2.heap.size 5 (.slice (some ⟨w2.heap.size, 0, none⟩) 0 0) (pads k2 92 0) := (Owns.lit w2 [] #[] (Nat.le_refl _) rfl (by decide)).alloc _
    have hO2 : Owns ((w2.alloc (.cells #[] 5)).alloc (.cells #[] 5)) w2.heap.size 5 (.slice (some ⟨w2.heap.size + 1, 0, none⟩) 0 0) (pads k2 54 0) := by
      have h : Owns ((w2.alloc (.cells #[] 5)).alloc (.cells #[] 5)) w2.heap.size 5 (.slice (some ⟨w2.heap.size + 1, 0, none⟩) 0 0) [] := by
        have := Owns.lit (e := 5) (base := w2.heap.size) (w2.alloc (.cells #[] 5)) [] #[] (by simp) rfl (by decide)
        simpa using this
      exact h
    have hbW : Below w.heap.size w ((w2.alloc (.cells #[] 5)).alloc (.cells #[] 5)) := (HBZ.out.alloc HBZ.out.size _).alloc (by have := HBZ.out.size; simp; omega) _
    have hpz : Pads ((w2.alloc (.cells #[] 5)).alloc (.cells #[] 5)) w2.heap.size ((w2.alloc (.cells #[] 5)).alloc (.cells #[] 5)) k2 0 (.slice (some ⟨w2.heap.size, 0, none⟩) 0 0) (.slice (some ⟨w2.heap.size + 1, 0, none⟩) 0 0) :=
      ⟨hO1, hO2, by intro g hg h; simp [Value.ownBlock] at hg h; omega, Below.refl _ _⟩
    have hbk3 : ((w2.alloc (.cells #[] 5)).alloc (.cells #[] 5)).heap[w.heap.size]? = some (.cells cs 51 (0, 0)) := by
      rw [heap_lt (by simp; omega), heap_lt (by omega)]; exact HBLK.out
    obtain ⟨W3, hW3⟩ : ∃ v, v = ((w2.alloc (.cells #[] 5)).alloc (.cells #[] 5)) := ⟨_, rfl⟩
    have hWs : w2.heap.size ≤ W3.heap.size := by rw [hW3]; simp; omega
    rw [← hW3] at hpz hbW hbk3 ⊢
    have HPZ := Lib.hid hpz
    have HBW := Lib.hid hbW
    have HBK3 := Lib.hid hbk3
    clear hO1 hO2 hW3 hbW hpz hbk3
    refine macLoop wd hwd64 w.heap.size w2.heap.size (by omega) k2 W3 W3 hWs _ _ _ _ _ _ _ _ _ _ _ _ _ _ _ _ _ _ _ _ _ _ _ _ _ _ _ _ _ _ _ _ _ _ _ _ _ _ _ _ _ _ _ _ _ _ _ _ _ _ _ _ _ _ _ ((cell_of_row _ _ 0 _ _ _ HBK3.out).trans H0.out) HPZ.out ?_
    intro u9 u10 u22 u23 u24 u25 u26 u27 u28 u29 u30 u31 u32 u33 u34 u35 u36 u37 u38 u39 u40 u41 u42 u43 u44 u45 va vb w4 hp4
    have hb4 : Below w.heap.size w w4 := HBW.out.trans (hp4.bel.mono (by omega))
    have hbk4 : w4.heap[w.heap.size]? = some (.cells cs 51 (0, 0)) := (hp4.bel.block _ (by omega)).trans HBK3.out
    have HB4 := Lib.hid hb4
    have HP4 := Lib.hid hp4
    have hp1 : pads k2 92 (2 * wd) = Sha.padded κ (bs k2) 92 := by rw [← pads_all, HBK.out]
    have hp2 : pads k2 54 (2 * wd) = Sha.padded κ (bs k2) 54 := by rw [← pads_all, HBK.out]
    have hlt1 : ∀ c ∈ pads k2 92 (2 * wd), c < 256 := fun c hc => by
      unfold pads at hc
      obtain ⟨j, _, rfl⟩ := List.mem_map.1 hc
      exact Nat.xor_lt_two_pow (n := 8) (getD_bs_lt k2 j) (by decide)
    have hlt2 : ∀ c ∈ pads k2 54 (2 * wd), c < 256 := fun c hc => by
      unfold pads at hc
      obtain ⟨j, _, rfl⟩ := List.mem_map.1 hc
      exact Nat.xor_lt_two_pow (n := 8) (getD_bs_lt k2 j) (by decide)
    obtain ⟨A, hA⟩ : ∃ A, A = strOf (pads k2 92 (2 * wd)) := ⟨_, rfl⟩
    obtain ⟨B, hB⟩ : ∃ B, B = strOf (pads k2 54 (2 * wd)) := ⟨_, rfl⟩
    have hAs : A.size = 2 * wd := by rw [hA, size_strOf, length_pads]
    have hBs : B.size = 2 * wd := by rw [hB, size_strOf, length_pads]
    obtain ⟨I, hI⟩ : ∃ I, I = strOf (Sha.sum κ (bs (B ++ s))) := ⟨_, rfl⟩
    have hIs : I.size ≤ wd := by rw [hI, size_strOf]; exact HSL.out _
    obtain ⟨O, hO⟩ : ∃ O, O = strOf (Sha.sum κ (bs (A ++ I))) := ⟨_, rfl⟩
    have hfin : O = strOf (Sha.mac κ (bs key) (bs s)) := by
      rw [hO, hI, hA, hB, bs_append, bs_append, bs_strOf _ (Sha.sum_lt κ _), bs_strOf _ hlt1, bs_strOf _ hlt2, hp1, hp2]
      unfold Sha.mac
      rw [HKEY.out]
    have C1 : Hid (∀ t : Grow w4, Calls Try.prog 25 #[.agg cs, .string (B ++ s)] t.val fun e w' => e = .returned (.string I) ∧ Below t.val.heap.size t.val w') := fun t => by
      rw [hI]; exact HSUM.out _ t.val (HB4.out.trans (t.below.mono HB4.out.size)) (by rw [ByteArray.size_append, hBs]; omega)
    have C2 : Hid (∀ t : Grow w4, Calls Try.prog 25 #[.agg cs, .string (A ++ I)] t.val fun e w' => e = .returned (.string O) ∧ Below t.val.heap.size t.val w') := fun t => by
      rw [hO]; exact HSUM.out _ t.val (HB4.out.trans (t.below.mono HB4.out.size)) (by rw [ByteArray.size_append, hAs]; omega)
    have kl : ∀ t : Grow w4, (kindLoad (.pointer (some ⟨w.heap.size, 0, none⟩))).run Try.prog t.val = .ok (.value (.agg cs)) t.val := fun t => HKL.out _ ((t.below.block _ (by have := hp4.bel.size; omega)).trans hbk4)
    have q1 : ∀ t : Grow w4, (convert 42 9 va).run Try.prog t.val = .ok (.string A) t.val := fun t => by rw [hA]; exact run_owned_string _ 42 9 Try.underlying42 Try.underlying5 Try.underlying9 (HP4.out.a.grow t)
    have q2 : ∀ t : Grow w4, (convert 42 9 vb).run Try.prog t.val = .ok (.string B) t.val := fun t => by rw [hB]; exact run_owned_string _ 42 9 Try.underlying42 Try.underlying5 Try.underlying9 (HP4.out.b.grow t)
    have hok1 : ¬ 9223372036854775807 < B.size + s.size := by rw [hBs]; omega
    have hok2 : ¬ 9223372036854775807 < A.size + I.size := by rw [hAs]; omega
    have HFIN := Lib.hid hfin
    clear hb4 hbk4 hp4 hp1 hp2 hlt1 hlt2 hA hB hI hO hfin hIs hAs hBs
    go_wp2_with fail
    refine wp_region_fam (by kernel_rfl) (by kernel_rfl) Grow.val (Grow.start w4) ?_
    repeat go_big_quiet_step ((first | (with_reducible refine Calls.fam_of (C1.out _) (Grow.more _)) | (with_reducible refine Calls.fam_of (C2.out _) (Grow.more _))))
    refine wpQuiet_nil ?_
    intro t
    clear kl q1 q2 C1 C2 hok1 hok2
    go_wp2_with fail
    go_ret
    exact ⟨congrArg (fun x => Ending.returned (.string x)) HFIN.out, HB4.out.trans (t.below.mono HB4.out.size)⟩
end Go.Proofs.Ytjlhckgokdjajaa
