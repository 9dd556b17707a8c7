/- The program's Utf8 and Units. -/
import Derived.Test.YthdoeaiehajofaaDoorTRunes
namespace Go.Proofs.YthdoeaiehajofaaDoor
set_option linter.unusedVariables false
set_option maxRecDepth 20000
open Go.RowKit
theorem OwnsZ.mono {w : World} {base base' : Nat} {T : TypeId} {k : IntKind} {v : Value} {l : List Int} (h : OwnsZ w base T k v l) (hb : base' ≤ base) : OwnsZ w base' T k v l := by
  refine ⟨h.1, ?_⟩
  rcases h.2 with h1 | ⟨g, cap, cur, h1, h2, h3⟩
  · exact .inl h1
  · exact .inr ⟨g, cap, cur, h1, Nat.le_trans hb h2, h3⟩
def Utf8Post (w : World) (s : ByteArray) (e : Ending) (w' : World) : Prop := Below w.heap.size w w' ∧
  ((∃ rs, U.Is (bs s) rs ∧ e = .returned (.bool true)) ∨ ((∀ rs, ¬ U.Is (bs s) rs) ∧ e = .returned (.bool false)))
theorem utf8W (s : ByteArray) (w : World) (hgl : Glob w) (hs : s.size ≤ 16777216) : Calls Tryd.prog 18 #[.string s] w (Utf8Post w s) := by
  have HR := Lib.hid (runesW s w hgl hs)
  go_enter Tryd.func18, Tryd.ntmps18
  go_wp2_with fail
  refine HR.out.mono ?_
  rintro e w1 ⟨hb, ⟨rs, v, h1, rfl, h2⟩ | ⟨h1, p, rfl⟩⟩
  · go_wp2_with fail
    go_ret
    exact ⟨hb, .inl ⟨rs, h1, rfl⟩⟩
  · unfold TErr
    go_wp2_with fail
    go_ret
    exact ⟨hb, .inr ⟨h1, rfl⟩⟩
def UnitsPost (w : World) (s : ByteArray) (e : Ending) (w' : World) : Prop := Below w.heap.size w w' ∧
  ((∃ rs v, U.Is (bs s) rs ∧ e = .returned (.tuple #[v, .int .i64 0]) ∧ OwnsZ w' w.heap.size 3 .i64 v (U.units rs)) ∨
   ((∀ rs, ¬ U.Is (bs s) rs) ∧ e = .returned (.tuple #[.slice none 0 0, .int .i64 12])))
theorem units_len (rs : List Nat) : (U.units rs).length ≤ 2 * rs.length := by
  induction rs with
  | nil => simp [U.units]
  | cons r rs ih =>
    rw [U.units_cons, List.length_append, List.length_cons]
    have : (U.u16 r).length ≤ 2 := by unfold U.u16; split <;> simp
    omega
theorem take_succ_lt {α : Type} (l : List α) (i : Nat) (h : i < l.length) (d : α) : l.take (i + 1) = l.take i ++ [l.getD i d] := by
  rw [List.take_add_one, List.getElem?_eq_getElem h, List.getD_eq_getElem?_getD, List.getElem?_eq_getElem h]; rfl
theorem units_take (rs : List Nat) (i : Nat) (h : i < rs.length) : U.units (rs.take (i + 1)) = U.units (rs.take i) ++ U.u16 (rs.getD i 0) := by
  rw [take_succ_lt rs i h 0, U.units_append]; simp [U.units]
theorem is_len {s : ByteArray} {rs : List Nat} (h : U.Is (bs s) rs) : rs.length ≤ s.size := by
  have := encs_len rs
  rw [← h.1, length_bs] at this
  exact this
set_option maxHeartbeats 4000000 in
theorem unitsW (s : ByteArray) (w : World) (hgl : Glob w) (hs : s.size ≤ 16777216) : Calls Tryd.prog 12 #[.string s] w (UnitsPost w s) := by
  have HR := Lib.hid (runesW s w hgl hs)
  have HG := Lib.hid hgl
  clear hgl
  go_enter Tryd.func12, Tryd.ntmps12
  go_wp2_with fail
  refine HR.out.mono ?_
  rintro e w1 ⟨hb, ⟨rs, v, h1, rfl, h2⟩ | ⟨h1, p, rfl⟩⟩
  · have HB := Lib.hid hb
    have HI := Lib.hid h1
    have HO := Lib.hid h2
    have hn := is_len h1
    obtain ⟨N, hN⟩ : ∃ N, N = rs.length := ⟨_, rfl⟩
    obtain ⟨vp, vc, rfl⟩ := h2.shape
    rw [List.length_map] at HO ⊢
    rw [← hN] at HO hn ⊢
    have HN := Lib.hid hN
    obtain ⟨w2, hw2⟩ : ∃ w2, w2 = w1 := ⟨_, rfl⟩
    rw [← hw2] at HO HB
    clear hb h1 h2 hN
    subst hw2
    go_wp2_with fail
    go_loopw [6, 21] (fun v6 v21 wr => ∃ i : Nat, i ≤ N ∧ v21 = .int .i64 (i : Nat) ∧ OwnsZ wr w2.heap.size 3 .i64 v6 (U.units (rs.take i)) ∧ Below w2.heap.size w2 wr) (fun _ v21 _ => (N - intOf v21).toNat)
    case atStart => exact ⟨0, Nat.zero_le _, rfl, OwnsZ.nil _ _ _ _, Below.refl _ _⟩
    case round =>
      obtain ⟨i, hi, rfl, ho, hb⟩ := hrel
      have HO2 := Lib.hid ho
      have HB2 := Lib.hid hb
      obtain ⟨up, uc, rfl⟩ := ho.shape
      obtain ⟨L, hL⟩ : ∃ L, L = (U.units (rs.take i)).length := ⟨_, rfl⟩
      rw [← hL] at HO2 ⊢
      have HLL := Lib.hid hL
      clear ho hb hL
      by_cases hlt : i < N
      · have hlt2 : i < (rs.map Int.ofNat).length := by rw [List.length_map, ← HN.out]; exact hlt
        obtain ⟨g, cap, hgv, hcell⟩ := HO.out.cell i hlt2
        have hgp : vp = some ⟨g, 0, none⟩ := by injection hgv
        subst hgp
        obtain ⟨r, hr⟩ : ∃ r, r = rs.getD i 0 := ⟨_, rfl⟩
        have hmap : (rs.map Int.ofNat).getD i 0 = (r : Int) := by
          rw [hr, List.getD_eq_getElem?_getD, List.getElem?_map, List.getElem?_eq_getElem (by rw [← HN.out]; exact hlt), List.getD_eq_getElem?_getD, List.getElem?_eq_getElem (by rw [← HN.out]; exact hlt)]
          rfl
        rw [hmap] at hcell
        have c0 := (HB2.out.cell (p := ⟨g, i, none⟩) (block_lt_of_cell hcell)).trans hcell
        have hmay : U.may r := HI.out.2 r (by
          rw [hr, List.getD_eq_getElem?_getD, List.getElem?_eq_getElem (by rw [← HN.out]; exact hlt)]; exact List.getElem_mem _)
        have hr31 : r ≤ 1114111 := hmay.1
        have HU := Lib.hid (units_take rs i (by rw [← HN.out]; exact hlt))
        rw [← hr] at HU
        have hul := units_len (rs.take i)
        have hul2 : (rs.take i).length ≤ 16777216 := by rw [List.length_take]; omega
        have HUL : Hid (L ≤ 33554432) := by unfold Hid; rw [HLL.out]; omega
        have i1 : (0 : Int) ≤ (i : Int) := by omega
        have i2 : (i : Int) < (N : Int) := by omega
        obtain ⟨z, hz⟩ : ∃ z : Int, z = (r : Int) := ⟨_, rfl⟩
        rw [← hz] at c0
        have hz0 : 0 ≤ z := by omega
        have hz1 : z ≤ 1114111 := by omega
        have HZ := Lib.hid hz
        clear hlt2 hgv hcell hr hmap hmay hul hul2 hr31 hz
        by_cases hbig : z < 65536
        · have HB6 : Hid (r < 65536) := by unfold Hid; have := HZ.out; omega
          go_wp2_with (at_builtin; refine wpList_append_z rfl _ _ _ rfl Tryd.underlying22 infoI64 (by decide) rfl (HO2.out.alloc _) ⟨wr.heap.size, 0, none⟩ 1 1 [z] rfl rfl ?d1 ?d2 ?d3 ?_)
          try (case d1 => intro j hj; obtain rfl : j = 0 := (by omega); simp [Addr.add])
          case d2 => rw [← HLL.out]; have := HUL.out; omega
          case d3 => have := HB2.out.size; simp; omega
          intro v5 w5 ho5 hg5 hv5
          have HO5 := Lib.hid ho5
          have HB5 := Lib.hid ((HB2.out.alloc HB2.out.size _).grown hg5 (by have := HB2.out.size; simp; omega) (fun k hk => (HO2.out.block hk).1))
          clear ho5 hg5 hv5 c0 HO2 HB2
          go_wp2_with fail
          refine ⟨⟨i + 1, by omega, rfl, ?_, HB5.out⟩, by simp [intOf]; omega⟩
          rw [HU.out]
          have h := HO5.out
          rw [show U.u16 r = [z] by unfold U.u16; rw [if_pos HB6.out, HZ.out]]
          exact h
        · have HB6 : Hid (¬ r < 65536) := by unfold Hid; have := HZ.out; omega
          obtain ⟨q, hq⟩ : ∃ q : Int, q = (z - 65536).tdiv 1024 := ⟨_, rfl⟩
          obtain ⟨q2, hq2⟩ : ∃ q : Int, q = (z - 65536).tmod 1024 := ⟨_, rfl⟩
          have e1 : q = (z - 65536) / 1024 := by rw [hq, Int.tdiv_eq_ediv_of_nonneg (by omega)]
          have e2 : q2 = (z - 65536) % 1024 := by rw [hq2, Int.tmod_eq_emod_of_nonneg (by omega)]
          have b1 : 0 ≤ q := by omega
          have b2 : q ≤ 1023 := by omega
          have b3 : 0 ≤ q2 := by omega
          have b4 : q2 ≤ 1023 := by omega
          have E1 : Hid (U.u16 r = [55296 + q, 56320 + q2]) := by
            have h6 := HB6.out
            have hz := HZ.out
            unfold Hid U.u16
            rw [if_neg h6]
            congr 1
            · omega
            · congr 1; omega
          have hq' := hq.symm
          have hq2' := hq2.symm
          clear hq hq2 e1 e2
          go_wp2_with (at_builtin; refine wpList_append_z rfl _ _ _ rfl Tryd.underlying22 infoI64 (by decide) rfl (HO2.out.alloc _) ⟨wr.heap.size, 0, none⟩ 1 1 [55296 + q] rfl rfl ?d7 ?d8 ?d9 ?_)
          try (case d7 => intro j hj; obtain rfl : j = 0 := (by omega); simp [Addr.add])
          case d8 => rw [← HLL.out]; have := HUL.out; omega
          case d9 => have := HB2.out.size; simp; omega
          intro v5 w5 ho5 hg5 hv5
          have HO5 := Lib.hid ho5
          have HB5 := Lib.hid ((HB2.out.alloc HB2.out.size _).grown hg5 (by have := HB2.out.size; simp; omega) (fun k hk => (HO2.out.block hk).1))
          clear ho5 hg5 hv5 c0 HO2 HB2
          obtain ⟨up5, uc5, rfl⟩ := HO5.out.shape
          obtain ⟨L5, hl5⟩ : ∃ L5, L5 = (U.units (rs.take i) ++ [55296 + q]).length := ⟨_, rfl⟩
          rw [← hl5] at HO5 ⊢
          have HL5 := Lib.hid hl5
          have hl6 : L5 = L + 1 := by rw [hl5, List.length_append, ← HLL.out]; rfl
          have HL6 := Lib.hid hl6
          clear hl5 hl6
          go_wp2_with (at_builtin; refine wpList_append_z rfl _ _ _ rfl Tryd.underlying22 infoI64 (by decide) rfl (HO5.out.alloc _) ⟨w5.heap.size, 0, none⟩ 1 1 [56320 + q2] rfl rfl ?d4 ?d5 ?d6 ?_)
          try (case d4 => intro j hj; obtain rfl : j = 0 := (by omega); simp [Addr.add])
          case d5 => rw [← HL5.out, HL6.out]; have := HUL.out; omega
          case d6 => have := HB5.out.size; simp; omega
          intro v6 w6 ho6 hg6 hv6
          have HO6 := Lib.hid ho6
          have HB6 := Lib.hid ((HB5.out.alloc HB5.out.size _).grown hg6 (by have := HB5.out.size; simp; omega) (fun k hk => (HO5.out.block hk).1))
          clear ho6 hg6 hv6 HO5 HB5
          go_wp2_with fail
          refine ⟨⟨i + 1, by omega, rfl, ?_, HB6.out⟩, by simp [intOf]; omega⟩
          rw [HU.out, E1.out]
          have h := HO6.out
          exact h
      · have e : rs.take i = rs := List.take_of_length_le (by rw [← HN.out]; omega)
        rw [e] at HO2
        clear e
        go_wp2_with fail
        go_ret2
        exact ⟨HB.out.trans (HB2.out.mono HB.out.size), .inl ⟨rs, _, HI.out, rfl, HO2.out.mono HB.out.size⟩⟩
  · have HB := Lib.hid hb
    have HT := Lib.hid (toldW p 12 w1 (HG.out.below hb HG.out.lt))
    have H1 := Lib.hid h1
    clear h1 hb
    unfold TErr at HT ⊢
    go_wp2_with (go_at_call 39; refine HT.out.mono ?_; rintro e w2 ⟨rfl, hb2⟩)
    go_ret2
    exact ⟨HB.out.trans (hb2.mono HB.out.size), .inr ⟨H1.out, rfl⟩⟩
end Go.Proofs.YthdoeaiehajofaaDoor
