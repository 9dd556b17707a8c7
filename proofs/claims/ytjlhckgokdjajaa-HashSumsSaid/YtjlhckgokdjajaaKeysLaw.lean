/- The walk of HashKeys. -/
import Derived.Test.YtjlhckgokdjajaaPlain
import Derived.Test.YtjlhckgokdjajaaFixed
namespace Go.Proofs.Ytjlhckgokdjajaa
open Go.RowKit
theorem bits_pad (key : ByteArray) (x i : Nat) (hx : x < 256) : bits .xor .u8 (((bs key).getD i 0 : Nat) : Int) (x : Int) = (((bs key).getD i 0 ^^^ x : Nat) : Int) := xor_u8 _ _ (getD_bs_lt key i) hx
/-- The first i bytes of the padded key. -/
def pads (key : ByteArray) (x i : Nat) : List Nat := (List.range i).map fun j => (bs key).getD j 0 ^^^ x
theorem length_pads (key : ByteArray) (x i : Nat) : (pads key x i).length = i := by simp [pads]
theorem pads_succ (key : ByteArray) (x i : Nat) : pads key x (i + 1) = pads key x i ++ [(bs key).getD i 0 ^^^ x] := by simp [pads, List.range_succ]
theorem pads_all (κ : Sha.Kind) (key : ByteArray) (x : Nat) : pads key x κ.block = Sha.padded κ (bs key) x := rfl
theorem padded_ltK (k : Nat) (l : List Nat) (x : Nat) (hx : x < 256) (hl : ∀ a ∈ l, a < 256) : ∀ a ∈ Sha.padded (kd k) l x, a < 256 := by
  unfold kd
  split
  · exact padded_lt32 l x hx hl
  · exact padded_lt64 l x hx hl
set_option maxRecDepth 100000 in
set_option maxHeartbeats 400000 in
theorem keysLaw (key s : ByteArray) (n : Int) (w : World) (hk : key.size ≤ 140737488355328) (hs : s.size ≤ 140737488355328) :
    Calls Try.prog 7 #[.string key, .string s, .int .i64 n] w fun e w' => e = .returned (.bool true) ∧ Below w.heap.size w w' := by
  have HK := Lib.hid hk
  have HS := Lib.hid hs
  clear hk hs
  go_enter Try.func7, Try.ntmps7
  go_wp2_with fail
  refine (fixedW _).mono ?_
  rintro e w1 ⟨rfl, hb1⟩
  have HB1 := Lib.hid hb1
  clear hb1
  go_wp2_with fail
  go_loopw [7] (fun v wr => ∃ k : Nat, k ≤ 2 ∧ v = .int .i64 (k : Nat) ∧ Below w.heap.size w wr) (fun v _ => (2 - intOf v).toNat)
  case atStart => exact ⟨0, by omega, rfl, HB1.out⟩
  case round =>
    obtain ⟨k, hk, rfl, hb⟩ := hrel
    have HBR := Lib.hid hb
    clear hb
    by_cases hlt : k < 2
    · go_wp2_with fail
      refine (macK k hlt key s _ (by have := HK.out; omega) (by have := HS.out; omega)).mono ?_
      rintro e w2 ⟨rfl, hb2⟩
      have HB2 := Lib.hid (HBR.out.trans (hb2.mono HBR.out.size))
      obtain ⟨m, hm⟩ : ∃ m, m = strOf (Sha.mac (kd k) (bs key) (bs s)) := ⟨_, rfl⟩
      rw [← hm]
      have HM := Lib.hid hm
      clear hb2 hm HBR
      by_cases hlong : 64 + 64 * k < key.size
      · go_wp2_with fail
        refine (sumK k hlt key _ (by have := HK.out; omega)).mono ?_
        rintro e w3 ⟨rfl, hb3⟩
        have HB3 := Lib.hid (HB2.out.trans (hb3.mono HB2.out.size))
        clear hb3 HB2
        go_wp2_with fail
        refine (macK k hlt _ s _ (by rw [size_strOf]; have := sum_kd_le k (bs key); omega) (by have := HS.out; omega)).mono ?_
        rintro e w4 ⟨rfl, hb4⟩
        have HB4 := Lib.hid (HB3.out.trans (hb4.mono HB3.out.size))
        have hx : strOf (Sha.mac (kd k) (bs (strOf (Sha.sum (kd k) (bs key)))) (bs s)) = m := by
          rw [HM.out, bs_strOf _ (Sha.sum_lt _ _), Sha.mac_sum (kd k) (bs key) (bs s) (by rw [block_kd k hlt, length_bs]; exact hlong) (by rw [block_kd k hlt]; have := sum_kd_le k (bs key); omega)]
        rw [hx]
        clear hb4 HB3 hx
        go_wp2_with fail
        go_roundw
        case rel => exact ⟨k + 1, by omega, rfl, HB4.out⟩
        case measure => simp [intOf]; omega
      · go_wp2_with fail
        have hO1 : Owns ((w2.alloc (.cells #[] 5)).alloc (.cells #[] 5)) w2.heap.size 5 (.slice (some ⟨w2.heap.size, 0, none⟩) 0 0) [] := (Owns.lit w2 [] #[] (Nat.le_refl _) rfl (by decide)).alloc _
        have hO2 : Owns ((w2.alloc (.cells #[] 5)).alloc (.cells #[] 5)) w2.heap.size 5 (.slice (some ⟨w2.heap.size + 1, 0, none⟩) 0 0) [] := by
          have := Owns.lit (e := 5) (base := w2.heap.size) (w2.alloc (.cells #[] 5)) [] #[] (by simp) rfl (by decide)
          simpa using this
        obtain ⟨W3, hW3⟩ : ∃ v, v = ((w2.alloc (.cells #[] 5)).alloc (.cells #[] 5)) := ⟨_, rfl⟩
        have hbW : Below w.heap.size w W3 := by
          rw [hW3]
          exact (HB2.out.alloc HB2.out.size _).alloc (by have := HB2.out.size; simp; omega) _
        have hWs : w2.heap.size ≤ W3.heap.size := by rw [hW3]; simp; omega
        rw [← hW3] at hO1 hO2 ⊢
        obtain ⟨base, hbase⟩ : ∃ b, b = w2.heap.size := ⟨_, rfl⟩
        rw [← hbase] at hO1 hO2 hWs ⊢
        have HO1 := Lib.hid hO1
        have HO2 := Lib.hid hO2
        have HBW := Lib.hid hbW
        have HWS := Lib.hid hWs
        have HBASE := Lib.hid hbase
        have HS2 := Lib.hid HB2.out.size
        clear hO1 hO2 hW3 hbW hWs hbase HB2
        go_loopw [15, 16, 17] (fun va vb vi wr => ∃ i : Nat, i ≤ 64 + 64 * k ∧ vi = .int .i64 (i : Nat) ∧ Owns wr base 5 va (pads key 92 i) ∧ Owns wr base 5 vb (pads key 54 i) ∧ (∀ g, va.ownBlock = some g → vb.ownBlock ≠ some g) ∧ Below base W3 wr) (fun _ _ vi _ => (200 - intOf vi).toNat)
        case atStart => exact ⟨0, by omega, rfl, HO1.out, HO2.out, by intro g hg h; simp [Value.ownBlock] at hg h; omega, Below.refl _ _⟩
        case round =>
          obtain ⟨i, hi, rfl, hown1, hown2, hne, hbel⟩ := hrel
          have HOW1 := Lib.hid hown1
          have HOW2 := Lib.hid hown2
          have HNE := Lib.hid hne
          have HBEL := Lib.hid hbel
          clear hown1 hown2 hne hbel
          by_cases hil : i < 64 + 64 * k
          · by_cases hik : i < key.size
            · have CI : (((bs key).getD i 0 : Nat) : Int) = (key[i].toNat : Int) := by
                have hl : i < (bs key).length := by rw [length_bs]; exact hik
                rw [List.getD_eq_getElem?_getD, List.getElem?_eq_getElem hl]; simp [bs]; rfl
              have hX0 := bits_pad key 92 i (by decide)
              have hY0 := bits_pad key 54 i (by decide)
              obtain ⟨X, hXX⟩ : ∃ X, X = (bs key).getD i 0 ^^^ 92 := ⟨_, rfl⟩
              obtain ⟨Y, hYY⟩ : ∃ X, X = (bs key).getD i 0 ^^^ 54 := ⟨_, rfl⟩
              rw [← hXX, CI] at hX0
              rw [← hYY, CI] at hY0
              have hX : bits .xor .u8 (key[i].toNat : Int) 92 = (X : Int) := hX0
              have hY : bits .xor .u8 (key[i].toNat : Int) 54 = (Y : Int) := hY0
              have HXX := Lib.hid hXX
              have HYY := Lib.hid hYY
              clear hXX hYY CI hX0 hY0
              go_wp2_with (at_builtin; refine wpList_append_bytes rfl _ _ 42 rfl Try.underlying42 info5 rfl (HOW1.out.alloc _) ⟨wr.heap.size, 0, none⟩ 1 1 [X] rfl rfl ?c1 ?c2 ?c3 ?_)
              case c1 => intro j hj; obtain rfl : j = 0 := by omega
                         simp [Addr.add]
              case c2 => rw [length_pads]; simp; omega
              case c3 => have := HBEL.out.size; have := HWS.out; simp; omega
              intro va w5 hown5 hgrow5 hva
              have hO5 : Owns w5 base 5 u16 (pads key 54 i) := (HOW2.out.alloc _).grown hgrow5 (by
                cases hb : u16.ownBlock with
                | none => exact .inl rfl
                | some g => exact .inr (fun h => HNE.out g h.symm hb))
              have hs5 := hgrow5.size
              have hbel5 : Below base W3 w5 := (HBEL.out.alloc (by have := HBEL.out.size; have := HWS.out; omega) _).grown hgrow5 (by have := HBEL.out.size; have := HWS.out; simp; omega) (fun g hg => (HOW1.out.block hg).1)
              simp only [World.size_alloc] at hs5 hva
              have HO5 := Lib.hid hO5
              have HBEL5 := Lib.hid hbel5
              have HOWN5 := Lib.hid hown5
              have HVA := Lib.hid hva
              clear hO5 hbel5 hown5 hva hgrow5
              go_wp2_with (at_builtin; refine wpList_append_bytes rfl _ _ 42 rfl Try.underlying42 info5 rfl (HO5.out.alloc _) ⟨w5.heap.size, 0, none⟩ 1 1 [Y] rfl rfl ?d1 ?d2 ?d3 ?_)
              case d1 => intro j hj; obtain rfl : j = 0 := by omega
                         simp [Addr.add]
              case d2 => rw [length_pads]; simp; omega
              case d3 => have := HBEL5.out.size; have := HWS.out; simp; omega
              intro vb w6 hown6 hgrow6 hvb
              have hO6 : Owns w6 base 5 va (pads key 92 i ++ [X]) := (HOWN5.out.alloc _).grown hgrow6 (by
                cases hb : va.ownBlock with
                | none => exact .inl rfl
                | some g =>
                  refine .inr fun h => ?_
                  rcases HVA.out with e | e
                  · exact HNE.out g (e ▸ hb) h.symm
                  · have h1 := (HOW2.out.block h.symm).2
                    rw [e] at hb
                    injection hb with hb
                    omega)
              have hbel6 : Below base W3 w6 := (HBEL5.out.alloc (by have := HBEL5.out.size; have := HWS.out; omega) _).grown hgrow6 (by have := HBEL5.out.size; have := HWS.out; simp; omega) (fun g hg => (HO5.out.block hg).1)
              try simp only [World.size_alloc] at hvb
              have hne6 : ∀ g, va.ownBlock = some g → vb.ownBlock ≠ some g := by
                intro g hg hgb
                have h5 := (HOWN5.out.block hg).2
                rcases hvb with e' | e'
                · rcases HVA.out with e | e
                  · exact HNE.out g (e ▸ hg) (e' ▸ hgb)
                  · have h1 := (HOW2.out.block (e' ▸ hgb)).2
                    rw [e] at hg
                    injection hg with hg
                    omega
                · rw [e'] at hgb
                  injection hgb with hgb
                  omega
              have R := Lib.hid (And.intro hO6 (And.intro hown6 (And.intro hne6 hbel6)))
              clear hO6 hown6 hne6 hbel6 hvb hgrow6 hX hY
              go_wp2_with fail
              go_roundw
              case rel => exact ⟨i + 1, by omega, rfl, by rw [pads_succ, ← HXX.out]; exact R.out.1, by rw [pads_succ, ← HYY.out]; exact R.out.2.1, R.out.2.2.1, R.out.2.2.2⟩
              case measure => simp [intOf]; omega
            · have CI : (((bs key).getD i 0 : Nat) : Int) = 0 := by
                rw [Sha.getD_out (by rw [length_bs]; omega)]; rfl
              have hX0 := bits_pad key 92 i (by decide)
              have hY0 := bits_pad key 54 i (by decide)
              obtain ⟨X, hXX⟩ : ∃ X, X = (bs key).getD i 0 ^^^ 92 := ⟨_, rfl⟩
              obtain ⟨Y, hYY⟩ : ∃ X, X = (bs key).getD i 0 ^^^ 54 := ⟨_, rfl⟩
              rw [← hXX, CI] at hX0
              rw [← hYY, CI] at hY0
              have hX : bits .xor .u8 0 92 = (X : Int) := hX0
              have hY : bits .xor .u8 0 54 = (Y : Int) := hY0
              have HXX := Lib.hid hXX
              have HYY := Lib.hid hYY
              clear hXX hYY CI hX0 hY0
              go_wp2_with (at_builtin; refine wpList_append_bytes rfl _ _ 42 rfl Try.underlying42 info5 rfl (HOW1.out.alloc _) ⟨wr.heap.size, 0, none⟩ 1 1 [X] rfl rfl ?c1 ?c2 ?c3 ?_)
              case c1 => intro j hj; obtain rfl : j = 0 := by omega
                         simp [Addr.add]
              case c2 => rw [length_pads]; simp; omega
              case c3 => have := HBEL.out.size; have := HWS.out; simp; omega
              intro va w5 hown5 hgrow5 hva
              have hO5 : Owns w5 base 5 u16 (pads key 54 i) := (HOW2.out.alloc _).grown hgrow5 (by
                cases hb : u16.ownBlock with
                | none => exact .inl rfl
                | some g => exact .inr (fun h => HNE.out g h.symm hb))
              have hs5 := hgrow5.size
              have hbel5 : Below base W3 w5 := (HBEL.out.alloc (by have := HBEL.out.size; have := HWS.out; omega) _).grown hgrow5 (by have := HBEL.out.size; have := HWS.out; simp; omega) (fun g hg => (HOW1.out.block hg).1)
              simp only [World.size_alloc] at hs5 hva
              have HO5 := Lib.hid hO5
              have HBEL5 := Lib.hid hbel5
              have HOWN5 := Lib.hid hown5
              have HVA := Lib.hid hva
              clear hO5 hbel5 hown5 hva hgrow5
              go_wp2_with (at_builtin; refine wpList_append_bytes rfl _ _ 42 rfl Try.underlying42 info5 rfl (HO5.out.alloc _) ⟨w5.heap.size, 0, none⟩ 1 1 [Y] rfl rfl ?d1 ?d2 ?d3 ?_)
              case d1 => intro j hj; obtain rfl : j = 0 := by omega
                         simp [Addr.add]
              case d2 => rw [length_pads]; simp; omega
              case d3 => have := HBEL5.out.size; have := HWS.out; simp; omega
              intro vb w6 hown6 hgrow6 hvb
              have hO6 : Owns w6 base 5 va (pads key 92 i ++ [X]) := (HOWN5.out.alloc _).grown hgrow6 (by
                cases hb : va.ownBlock with
                | none => exact .inl rfl
                | some g =>
                  refine .inr fun h => ?_
                  rcases HVA.out with e | e
                  · exact HNE.out g (e ▸ hb) h.symm
                  · have h1 := (HOW2.out.block h.symm).2
                    rw [e] at hb
                    injection hb with hb
                    omega)
              have hbel6 : Below base W3 w6 := (HBEL5.out.alloc (by have := HBEL5.out.size; have := HWS.out; omega) _).grown hgrow6 (by have := HBEL5.out.size; have := HWS.out; simp; omega) (fun g hg => (HO5.out.block hg).1)
              try simp only [World.size_alloc] at hvb
              have hne6 : ∀ g, va.ownBlock = some g → vb.ownBlock ≠ some g := by
                intro g hg hgb
                have h5 := (HOWN5.out.block hg).2
                rcases hvb with e' | e'
                · rcases HVA.out with e | e
                  · exact HNE.out g (e ▸ hg) (e' ▸ hgb)
                  · have h1 := (HOW2.out.block (e' ▸ hgb)).2
                    rw [e] at hg
                    injection hg with hg
                    omega
                · rw [e'] at hgb
                  injection hgb with hgb
                  omega
              have R := Lib.hid (And.intro hO6 (And.intro hown6 (And.intro hne6 hbel6)))
              clear hO6 hown6 hne6 hbel6 hvb hgrow6 hX hY
              go_wp2_with fail
              go_roundw
              case rel => exact ⟨i + 1, by omega, rfl, by rw [pads_succ, ← HXX.out]; exact R.out.1, by rw [pads_succ, ← HYY.out]; exact R.out.2.1, R.out.2.2.1, R.out.2.2.2⟩
              case measure => simp [intOf]; omega
          · have hiB : i = 64 + 64 * k := by omega
            subst hiB
            obtain ⟨g1, c1, rfl, _, hc1, hcell1⟩ := HOW1.out.form (by rw [length_pads]; omega)
            obtain ⟨g2, c2, rfl, _, hc2, hcell2⟩ := HOW2.out.form (by rw [length_pads]; omega)
            rw [length_pads] at hcell1 hcell2
            have HC1 := Lib.hid hcell1
            have HC2 := Lib.hid hcell2
            have HBL := Lib.hid (HBW.out.trans (HBEL.out.mono (by rw [HBASE.out]; exact HS2.out)))
            have HG1 := Lib.hid (HOW1.out.block rfl)
            have HP1 : pads key 92 (64 + 64 * k) = Sha.padded (kd k) (bs key) 92 := by rw [← pads_all, block_kd k hlt]
            have HP2 : pads key 54 (64 + 64 * k) = Sha.padded (kd k) (bs key) 54 := by rw [← pads_all, block_kd k hlt]
            simp only [length_pads]
            have HPP1 := Lib.hid HP1
            have HPP2 := Lib.hid HP2
            clear HP1 HP2 hcell1 hcell2 hc1 hc2 HOW1 HOW2 HNE HBEL
            have hin : bs (strOf (pads key 54 (64 + 64 * k)) ++ s) = Sha.padded (kd k) (bs key) 54 ++ bs s := by
              rw [bs_append, HPP2.out, bs_strOf _ (padded_ltK k _ _ (by decide) (fun a ha => bs_lt _ a ha))]
            have hinl : (strOf (pads key 54 (64 + 64 * k)) ++ s).size = 64 + 64 * k + s.size := by
              rw [ByteArray.size_append, size_strOf, length_pads]
            have hok1 : ¬ 9223372036854775807 < (strOf (pads key 54 (64 + 64 * k))).size + s.size := by rw [size_strOf, length_pads]; have := HS.out; omega
            have HINL := Lib.hid hinl
            have HIN := Lib.hid hin
            clear hinl hin
            go_wp2_with (first | (with_reducible refine wpList_bytes_string (o := ⟨some 92, _, _, _, _, _⟩) rfl 42 9 _ rfl Try.underlying42 Try.underlying5 Try.underlying9 g2 0 (64 + 64 * k) c2 rfl (pads key 54 (64 + 64 * k)) ?e2 ?e3 ?_))
            case e2 => rw [length_pads]
            case e3 => intro j hj; have := HC2.out j hj; simpa using this
            refine (sumK k hlt _ _ (by rw [HINL.out]; have := HS.out; omega)).mono ?_
            rintro e w8 ⟨rfl, hb8⟩
            rw [HIN.out]
            have HB8 := Lib.hid (HBL.out.trans (hb8.mono HBL.out.size))
            have hcell8 : ∀ j, j < 64 + 64 * k → w8.cell? ⟨g1, j, none⟩ = some (.int .u8 ((pads key 92 (64 + 64 * k)).getD j 0 : Nat)) := fun j hj => (hb8.cell (by exact HG1.out.2)).trans (HC1.out j hj)
            have HC8 := Lib.hid hcell8
            clear hcell8 hb8 HBL HIN HINL HC2 HC1 hok1
            obtain ⟨inner, hinner⟩ : ∃ t, t = strOf (Sha.sum (kd k) (Sha.padded (kd k) (bs key) 54 ++ bs s)) := ⟨_, rfl⟩
            rw [← hinner]
            have hil8 : inner.size ≤ 48 := by rw [hinner, size_strOf]; exact sum_kd_le _ _
            have hbi : bs inner = Sha.sum (kd k) (Sha.padded (kd k) (bs key) 54 ++ bs s) := by rw [hinner, bs_strOf _ (Sha.sum_lt _ _)]
            have HBI := Lib.hid hbi
            have HI8 := Lib.hid hil8
            have hok2 : ¬ 9223372036854775807 < (strOf (pads key 92 (64 + 64 * k))).size + inner.size := by rw [size_strOf, length_pads]; omega
            clear hinner hbi hil8
            go_wp2_with (first | (with_reducible refine wpList_bytes_string (o := ⟨some 101, _, _, _, _, _⟩) rfl 42 9 _ rfl Try.underlying42 Try.underlying5 Try.underlying9 g1 0 (64 + 64 * k) c1 rfl (pads key 92 (64 + 64 * k)) ?e2 ?e3 ?_))
            case e2 => rw [length_pads]
            case e3 => intro j hj; have := HC8.out j hj; simpa using this
            refine (sumK k hlt _ _ (by rw [ByteArray.size_append, size_strOf, length_pads]; have := HI8.out; omega)).mono ?_
            rintro e w9 ⟨rfl, hb9⟩
            have hmm : strOf (Sha.sum (kd k) (bs (strOf (pads key 92 (64 + 64 * k)) ++ inner))) = m := by
              rw [bs_append, HPP1.out, bs_strOf _ (padded_ltK k _ _ (by decide) (fun a ha => bs_lt _ a ha)), HBI.out, HM.out, Sha.mac_short _ _ _ (by rw [block_kd k hlt, length_bs]; omega)]
            rw [hmm]
            have HB9 := Lib.hid (HB8.out.trans (hb9.mono HB8.out.size))
            clear hmm hb9 HB8 HC8 hok2
            go_wp2_with fail
            clear HO1 HO2 HBW HWS HBASE HS2 HPP1 HPP2 HBI HI8 HG1 hi hil
            go_loopw [23, 24] (fun vl vi wr => ∃ (i : Nat) (lo : ByteArray), key.size + i ≤ 64 + 64 * k ∧ vi = .int .i64 (i : Nat) ∧ vl = .string lo ∧ lo.size = key.size + i ∧ bs lo = bs key ++ List.replicate i 0 ∧ Below w.heap.size w wr) (fun _ vi _ => (200 - intOf vi).toNat)
            case atStart => exact ⟨0, key, by omega, rfl, rfl, rfl, by simp, HB9.out⟩
            case round =>
              obtain ⟨i, lo, hi, rfl, rfl, hlo, hblo, hb⟩ := hrel
              have HLO := Lib.hid hblo
              have HBR := Lib.hid hb
              have HLS := Lib.hid hlo
              clear hblo hb
              have hlo1 : lo.size ≤ 64 + 64 * k := by omega
              have hlo2 : ¬ 9223372036854775807 < lo.size + 1 := by omega
              clear hlo
              have hnext : bs (lo ++ ⟨#[0]⟩) = bs key ++ List.replicate (i + 1) 0 := by
                rw [bs_append, HLO.out, List.append_assoc, List.replicate_succ']; rfl
              have HNX := Lib.hid hnext
              clear hnext
              by_cases c1 : (i : Int) < n
              · by_cases c2 : lo.size < 64 + 64 * k
                · go_wp2_with fail
                  exact ⟨⟨i + 1, _, by have := HLS.out; omega, rfl, rfl, by rw [ByteArray.size_append, HLS.out]; rfl, HNX.out, HBR.out⟩, by simp [intOf]; omega⟩
                · go_wp2_with fail
                  refine (macK k hlt _ s _ (by omega) (by have := HS.out; omega)).mono ?_
                  rintro e w10 ⟨rfl, hb10⟩
                  have hmm : strOf (Sha.mac (kd k) (bs lo) (bs s)) = m := by
                    rw [HLO.out, HM.out, Sha.mac_zeros (kd k) (bs key) (bs s) i (by rw [block_kd k hlt, length_bs]; omega)]
                  rw [hmm]
                  have HB10 := Lib.hid (HBR.out.trans (hb10.mono HBR.out.size))
                  clear hmm hb10 HBR
                  go_wp2_with fail
                  go_roundw
                  case rel => exact ⟨k + 1, by omega, rfl, HB10.out⟩
                  case measure => simp [intOf]; omega
              · go_wp2_with fail
                refine (macK k hlt _ s _ (by omega) (by have := HS.out; omega)).mono ?_
                rintro e w10 ⟨rfl, hb10⟩
                have hmm : strOf (Sha.mac (kd k) (bs lo) (bs s)) = m := by
                  rw [HLO.out, HM.out, Sha.mac_zeros (kd k) (bs key) (bs s) i (by rw [block_kd k hlt, length_bs]; omega)]
                rw [hmm]
                have HB10 := Lib.hid (HBR.out.trans (hb10.mono HBR.out.size))
                clear hmm hb10 HBR
                go_wp2_with fail
                go_roundw
                case rel => exact ⟨k + 1, by omega, rfl, HB10.out⟩
                case measure => simp [intOf]; omega
    · go_wp2_with fail
      go_ret
      exact ⟨rfl, HBR.out⟩
end Go.Proofs.Ytjlhckgokdjajaa
