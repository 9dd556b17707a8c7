/- The program's joined. -/
import Derived.Test.YthdoeaiehajofaaDoorTRUnits
namespace Go.Proofs.YthdoeaiehajofaaDoor
set_option linter.unusedVariables false
set_option maxRecDepth 20000
open Go.RowKit
def JS (zs : List Int) (i : Nat) (acc : List Nat) : Prop := (U.jn zs).1 = (U.jn (zs.drop i)).1 ∧ (U.jn zs).2 = acc ++ (U.jn (zs.drop i)).2
theorem JS.zero (zs : List Int) : JS zs 0 [] := ⟨rfl, rfl⟩
theorem drop_getD (zs : List Int) (i : Nat) (h : i < zs.length) : zs.drop i = zs.getD i 0 :: zs.drop (i + 1) := by
  rw [List.drop_eq_getElem_cons h, List.getD_eq_getElem?_getD, List.getElem?_eq_getElem h]; rfl
section
variable {zs : List Int} {i : Nat} {acc : List Nat}
theorem JS.done (h : JS zs i acc) (hi : ¬ i < zs.length) : (U.jn zs).1 = 0 ∧ (U.jn zs).2 = acc := by
  obtain ⟨h1, h2⟩ := h
  rw [List.drop_of_length_le (by omega)] at h1 h2
  exact ⟨h1, by rw [h2]; exact List.append_nil _⟩
theorem JS.bad (h : JS zs i acc) (hi : i < zs.length) (hz : zs.getD i 0 < 0 ∨ 65535 < zs.getD i 0) : (U.jn zs).1 = 13 := by
  rw [h.1, drop_getD zs i hi, U.jn_cons, if_pos hz]
theorem JS.low (h : JS zs i acc) (hi : i < zs.length) (hz : ¬ (zs.getD i 0 < 0 ∨ 65535 < zs.getD i 0)) (hl : U.low (zs.getD i 0)) : (U.jn zs).1 = 14 := by
  rw [h.1, drop_getD zs i hi, U.jn_cons, if_neg hz, if_pos hl]
theorem high_low {z : Int} (h : U.high z) : ¬ U.low z := fun k => by unfold U.high at h; unfold U.low at k; omega
theorem high_in {z : Int} (h : U.high z) : ¬ (z < 0 ∨ 65535 < z) := by unfold U.high at h; omega
theorem JS.alone (h : JS zs i acc) (hi : i < zs.length) (hh : U.high (zs.getD i 0)) (hn : i + 1 = zs.length ∨ ¬ U.low (zs.getD (i + 1) 0)) : (U.jn zs).1 = 14 := by
  rw [h.1, drop_getD zs i hi, U.jn_cons, if_neg (high_in hh), if_neg (high_low hh), if_pos hh]
  by_cases e : i + 1 < zs.length
  · rw [drop_getD zs (i + 1) e]
    simp only
    rw [if_neg (by rcases hn with h1 | h1; · omega
                   · exact h1)]
  · rw [List.drop_of_length_le (by omega)]
theorem JS.pair (h : JS zs i acc) (hi : i + 1 < zs.length) (hh : U.high (zs.getD i 0)) (hl : U.low (zs.getD (i + 1) 0)) :
    JS zs (i + 2) (acc ++ [(65536 + (zs.getD i 0 - 55296) * 1024 + (zs.getD (i + 1) 0 - 56320)).toNat]) := by
  obtain ⟨h1, h2⟩ := h
  rw [drop_getD zs i (by omega), U.jn_cons, if_neg (high_in hh), if_neg (high_low hh), if_pos hh, drop_getD zs (i + 1) hi] at h1 h2
  simp only at h1 h2
  rw [if_pos hl] at h1 h2
  exact ⟨h1, by rw [h2, List.append_assoc]; rfl⟩
theorem JS.one (h : JS zs i acc) (hi : i < zs.length) (hz : ¬ (zs.getD i 0 < 0 ∨ 65535 < zs.getD i 0)) (hl : ¬ U.low (zs.getD i 0)) (hh : ¬ U.high (zs.getD i 0)) : JS zs (i + 1) (acc ++ [(zs.getD i 0).toNat]) := by
  obtain ⟨h1, h2⟩ := h
  rw [drop_getD zs i hi, U.jn_cons, if_neg hz, if_neg hl, if_neg hh] at h1 h2
  exact ⟨h1, by rw [h2, List.append_assoc]; rfl⟩
end
def JPost (w : World) (zs : List Int) (e : Ending) (w' : World) : Prop := Below w.heap.size w w' ∧
  (((U.jn zs).1 = 0 ∧ ∃ v, e = .returned (.tuple #[v, .nilIface]) ∧ OwnsZ w' w.heap.size 21 .i32 v ((U.jn zs).2.map Int.ofNat)) ∨
   ((U.jn zs).1 ≠ 0 ∧ ∃ p, e = .returned (.tuple #[.slice none 0 0, TErr p (U.jn zs).1])))
set_option maxHeartbeats 4000000 in
theorem joinedW (v : Value) (zs : List Int) (w : World) (hgl : Glob w) (h : Ints w v zs) (hs : zs.length ≤ 16777216) : Calls Tryd.prog 41 #[v] w (JPost w zs) := by
  obtain ⟨p, c, rfl, hc⟩ := h.form
  obtain ⟨N, hN⟩ : ∃ N, N = zs.length := ⟨_, rfl⟩
  rw [← hN] at hs ⊢
  have HN := Lib.hid hN
  have HC := Lib.hid hc
  have HG := Lib.hid hgl
  clear h hc hN hgl
  go_enter Tryd.func41, Tryd.ntmps41
  go_wp2_with fail
  go_loopw [4, 5] (fun v4 v5 wr => ∃ (i : Nat) (acc : List Nat), i ≤ N ∧ v5 = .int .i64 (i : Nat) ∧ JS zs i acc ∧ acc.length ≤ i ∧ OwnsZ wr w.heap.size 21 .i32 v4 (acc.map Int.ofNat) ∧ Below w.heap.size w wr) (fun _ v5 _ => (N - intOf v5).toNat)
  case atStart => exact ⟨0, [], Nat.zero_le _, rfl, JS.zero _, Nat.zero_le _, OwnsZ.nil _ _ _ _, Below.refl _ _⟩
  case round =>
    obtain ⟨i, acc, hi, rfl, hj, hal, ho, hb⟩ := hrel
    obtain ⟨vp, vc, rfl⟩ := ho.shape
    obtain ⟨L, hL⟩ : ∃ L, L = (acc.map Int.ofNat).length := ⟨_, rfl⟩
    rw [← hL] at ho ⊢
    have hLL : L ≤ 16777216 := by rw [hL, List.length_map]; omega
    have HL := Lib.hid hL
    have HJ := Lib.hid hj
    have HO := Lib.hid ho
    have HB := Lib.hid hb
    have HAL := Lib.hid hal
    clear hj ho hb hL hal
    by_cases hlt : i < N
    · obtain ⟨b, off, rfl, hcell⟩ := HC.out i (by rw [← HN.out]; exact hlt)
      have c0 := (HB.out.cell (p := ⟨b, off + i, none⟩) (block_lt_of_cell hcell)).trans hcell
      obtain ⟨z, hz⟩ : ∃ z, z = zs.getD i 0 := ⟨_, rfl⟩
      rw [← hz] at c0
      have HZ := Lib.hid hz
      have HLT : Hid (i < zs.length) := by unfold Hid; rw [← HN.out]; exact hlt
      clear hcell hz
      have HA : Hid (∀ (e : Int) w0, w0 = wr → Calls Tryd.prog 47 #[.int .i64 (i : Nat), .int .i64 e] w0 fun ev w' => (∃ s, ev = .returned (TErr s e)) ∧ Below w0.heap.size w0 w') := fun x w0 e => by
        subst e
        exact atW (i : Nat) x (by omega) (by omega) _ (HG.out.below HB.out HG.out.lt)
      by_cases hz0 : z < 0
      · go_wp2_with (go_at_call 47; refine (HA.out _ _ rfl).mono ?_; rintro e w5 ⟨⟨p, rfl⟩, hb5⟩)
        go_ret2
        have e := HJ.out.bad HLT.out (.inl (by rw [← HZ.out]; exact hz0))
        exact ⟨HB.out.trans (hb5.mono HB.out.size), .inr ⟨by rw [e]; decide, p, by rw [e]; rfl⟩⟩
      · by_cases hz1 : 65535 < z
        · go_wp2_with (go_at_call 47; refine (HA.out _ _ rfl).mono ?_; rintro e w5 ⟨⟨p, rfl⟩, hb5⟩)
          go_ret2
          have e := HJ.out.bad HLT.out (.inr (by rw [← HZ.out]; exact hz1))
          exact ⟨HB.out.trans (hb5.mono HB.out.size), .inr ⟨by rw [e]; decide, p, by rw [e]; rfl⟩⟩
        · have hzb : 0 ≤ z := by omega
          have hzc : z ≤ 65535 := by omega
          have HZI : Hid (¬ (zs.getD i 0 < 0 ∨ 65535 < zs.getD i 0)) := by unfold Hid; rw [← HZ.out]; omega
          clear hz0 hz1
          by_cases hlo : U.low z
          · have hq : z / 1024 = 55 := by unfold U.low at hlo; omega
            have E4 : Hid ((U.jn zs).1 = 14) := HJ.out.low HLT.out HZI.out (by rw [← HZ.out]; exact hlo)
            clear hlo
            go_wp2_with (go_at_call 47; refine (HA.out _ _ rfl).mono ?_; rintro e w5 ⟨⟨p, rfl⟩, hb5⟩)
            go_ret2
            exact ⟨HB.out.trans (hb5.mono HB.out.size), .inr ⟨by rw [E4.out]; decide, p, by rw [E4.out]; rfl⟩⟩
          · by_cases hhi : U.high z
            · have hq : z / 1024 = 54 := by unfold U.high at hhi; omega
              have HHI : Hid (U.high (zs.getD i 0)) := by unfold Hid; rw [← HZ.out]; exact hhi
              have hz2 : 55296 ≤ z := hhi.1
              have hz3 : z ≤ 56319 := hhi.2
              clear hlo hhi
              by_cases hend : i + 1 = N
              · have hbe : ((i : Int) + 1 == (N : Int)) = true := by rw [beq_iff_eq]; omega
                have E4 : Hid ((U.jn zs).1 = 14) := HJ.out.alone HLT.out HHI.out (.inl (by rw [← HN.out]; exact hend))
                clear hend
                go_wp2_with (go_at_call 47; refine (HA.out _ _ rfl).mono ?_; rintro e w5 ⟨⟨p, rfl⟩, hb5⟩)
                go_ret2
                exact ⟨HB.out.trans (hb5.mono HB.out.size), .inr ⟨by rw [E4.out]; decide, p, by rw [E4.out]; rfl⟩⟩
              · have hbe : ((i : Int) + 1 == (N : Int)) = false := by rw [beq_eq_false_iff_ne]; omega
                have hlt1 : i + 1 < N := by omega
                obtain ⟨b2, off2, hbo, hcell1⟩ := HC.out (i + 1) (by rw [← HN.out]; exact hlt1)
                obtain ⟨rfl, rfl⟩ : b = b2 ∧ off = off2 := by injection hbo with h1; injection h1 with h2 h3; exact ⟨h2, h3⟩
                have c1 := (HB.out.cell (p := ⟨b, off + (i + 1), none⟩) (block_lt_of_cell hcell1)).trans hcell1
                obtain ⟨y, hy⟩ : ∃ y, y = zs.getD (i + 1) 0 := ⟨_, rfl⟩
                rw [← hy] at c1
                have HY := Lib.hid hy
                have i1 : (i : Int) + 1 < (N : Int) := by omega
                have i0 : (0 : Int) ≤ (i : Int) + 1 := by omega
                have i3 : ((i : Int) + 1).toNat = i + 1 := by omega
                clear hcell1 hy hbo hend
                by_cases hy0 : y < 56320
                · have E4 : Hid ((U.jn zs).1 = 14) := HJ.out.alone HLT.out HHI.out (.inr (by rw [← HY.out]; unfold U.low; omega))
                  go_wp2_with (go_at_call 47; refine (HA.out _ _ rfl).mono ?_; rintro e w5 ⟨⟨p, rfl⟩, hb5⟩)
                  go_ret2
                  exact ⟨HB.out.trans (hb5.mono HB.out.size), .inr ⟨by rw [E4.out]; decide, p, by rw [E4.out]; rfl⟩⟩
                · by_cases hy1 : 57343 < y
                  · have E4 : Hid ((U.jn zs).1 = 14) := HJ.out.alone HLT.out HHI.out (.inr (by rw [← HY.out]; unfold U.low; omega))
                    go_wp2_with (go_at_call 47; refine (HA.out _ _ rfl).mono ?_; rintro e w5 ⟨⟨p, rfl⟩, hb5⟩)
                    go_ret2
                    exact ⟨HB.out.trans (hb5.mono HB.out.size), .inr ⟨by rw [E4.out]; decide, p, by rw [E4.out]; rfl⟩⟩
                  · have HJ2 := Lib.hid (HJ.out.pair (by rw [← HN.out]; exact hlt1) HHI.out (by rw [← HY.out]; unfold U.low; omega))
                    rw [← HZ.out, ← HY.out] at HJ2
                    go_wp2_with (at_builtin; refine wpList_append_z rfl _ _ _ rfl Tryd.underlying58 infoI32 (by decide) rfl (HO.out.alloc _) ⟨wr.heap.size, 0, none⟩ 1 1 [65536 + (z - 55296) * 1024 + y - 56320] rfl rfl ?d1 ?d2 ?d3 ?_)
                    try (case d1 => intro j hj; obtain rfl : j = 0 := (by omega); simp [Addr.add])
                    case d2 => have := HAL.out; (try simp only [List.length_map]); omega
                    case d3 => have := HB.out.size; simp; omega
                    intro v5 w5 ho5 hg5 hv5
                    have HO5 := Lib.hid ho5
                    have HB5 := Lib.hid ((HB.out.alloc HB.out.size _).grown hg5 (by have := HB.out.size; simp; omega) (fun k hk => (HO.out.block hk).1))
                    clear ho5 hg5 hv5 HO HB HA
                    go_wp2_with fail
                    refine ⟨⟨i + 2, _, by omega, by simp; omega, HJ2.out, by have := HAL.out; simp; omega, ?_, HB5.out⟩, by simp [intOf]; omega⟩
                    rw [List.map_append]
                    have h := HO5.out
                    rw [show [65536 + (z - 55296) * 1024 + y - 56320] = [(65536 + (z - 55296) * 1024 + (y - 56320)).toNat].map Int.ofNat by simp; omega] at h
                    exact h
            · obtain ⟨q, hq⟩ : ∃ q, z / 1024 = q := ⟨_, rfl⟩
              have q5 : (q == 55) = false := by rw [beq_eq_false_iff_ne]; unfold U.low at hlo; omega
              have q4 : (q == 54) = false := by rw [beq_eq_false_iff_ne]; unfold U.high at hhi; omega
              have HJ2 := Lib.hid (HJ.out.one HLT.out HZI.out (by rw [← HZ.out]; exact hlo) (by rw [← HZ.out]; exact hhi))
              rw [← HZ.out] at HJ2
              clear hlo hhi
              go_wp2_with (at_builtin; refine wpList_append_z rfl _ _ _ rfl Tryd.underlying58 infoI32 (by decide) rfl (HO.out.alloc _) ⟨wr.heap.size, 0, none⟩ 1 1 [z] rfl rfl ?d4 ?d5 ?d6 ?_)
              try (case d4 => intro j hj; obtain rfl : j = 0 := (by omega); simp [Addr.add])
              case d5 => have := HAL.out; (try simp only [List.length_map]); omega
              case d6 => have := HB.out.size; simp; omega
              intro v5 w5 ho5 hg5 hv5
              have HO5 := Lib.hid ho5
              have HB5 := Lib.hid ((HB.out.alloc HB.out.size _).grown hg5 (by have := HB.out.size; simp; omega) (fun k hk => (HO.out.block hk).1))
              clear ho5 hg5 hv5 HO HB HA
              go_wp2_with fail
              refine ⟨⟨i + 1, _, by omega, rfl, HJ2.out, by have := HAL.out; simp; omega, ?_, HB5.out⟩, by simp [intOf]; omega⟩
              rw [List.map_append]
              have h := HO5.out
              rw [show [z] = [z.toNat].map Int.ofNat by simp; omega] at h
              exact h
    · go_wp2_with fail
      go_ret2
      obtain ⟨e1, e2⟩ := HJ.out.done (by rw [← HN.out]; exact hlt)
      exact ⟨HB.out, .inl ⟨e1, _, rfl, by rw [e2]; exact HO.out⟩⟩
end Go.Proofs.YthdoeaiehajofaaDoor
