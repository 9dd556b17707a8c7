/- The law TextUnits, walked. -/
import Derived.Test.YthdoeaiehajofaaDoorTLCuts
import Derived.Test.YthdoeaiehajofaaDoorTSame
namespace Go.Proofs.YthdoeaiehajofaaDoor
set_option linter.unusedVariables false
set_option maxRecDepth 100000
open Go.RowKit
theorem OwnsZ.other {w w' : World} {base : Nat} {T : TypeId} {k : IntKind} {v : Value} {l : List Int} (h : OwnsZ w base T k v l) {row : Option Nat} (hg : w.grownBy w' row) (hx : ∀ x, v.ownBlock = some x → row ≠ some x) : OwnsZ w' base T k v l := by
  rcases e : v.ownBlock with _ | x
  · exact h.grown hg (.inl e)
  · exact h.grown hg (.inr (fun e2 => hx x e (by rw [← e2, e])))
theorem OwnsZ.ints {w : World} {base : Nat} {v : Value} {l : List Int} (h : OwnsZ w base 3 .i64 v l) : Ints w v l := by
  obtain ⟨p, c, rfl⟩ := h.shape
  refine Ints.mk fun i hi => ?_
  obtain ⟨g, cap, hv, hc⟩ := h.cell i hi
  injection hv with h1
  subst h1
  exact ⟨g, 0, rfl, by rw [Nat.zero_add]; exact hc⟩
/-- append of a whole slice of integers of the call's own, nil or not. -/
theorem wpList_append_zz {P : Program} {ops : Array Oper} {rest : List Oper} {o : Oper} {a : Act} {w : World} {Q : Exit → Act → World → Prop} {base base2 : Nat} {T : TypeId} {k : IntKind} {v u : Value} {l news : List Int} {by8 : Nat}
    (hgd : Region.wanted o (yielded ops a.tmps) = true) (s x : Operand) (Ts : TypeId) (ho : o.op = .call { callee := .builtin .append, args := #[s, x], argTypes := #[Ts, Ts] })
    (ht : P.underlying Ts = some (.slice T)) (hi : (P.info? T).map (fun i => (i.zero, i.size, i.bytes)) = some (some (.int k 0), 1, by8)) (h8 : by8 ≤ 8)
    (hs : a.eval s = v) (hown : OwnsZ w base T k v l) (hx : a.eval x = u) (hu : OwnsZ w base2 T k u news) (hsz : l.length + news.length ≤ 1099511627776) (hbase : base ≤ w.heap.size)
    (h : ∀ v' w', OwnsZ w' base T k v' (l ++ news) → w.grownBy w' v.ownBlock → wpList P ops Q rest (a.put o.dst v') w') : wpList P ops Q (o :: rest) a w := by
  obtain ⟨i0, hi0, hz0, hz1, hz2⟩ := info_parts hi
  have key : ∃ v' w', (Builtin.append_ #[Ts, Ts] o.type #[v, u]).run P w = .ok v' w' ∧ OwnsZ w' base T k v' (l ++ news) ∧ w.grownBy w' v.ownBlock := by
    rcases hu.2 with ⟨h1, h2⟩ | ⟨g, cap, cur, h1, h2, h3, h4⟩
    · obtain rfl : news = [] := List.eq_nil_of_length_eq_zero h2
      exact ⟨v, w, by rw [h1]; exact run_append_owned_none (P := P) w base Ts o.type T i0 1 ht hi0 v l.length (l.map (Value.int k)) hown, by rw [List.append_nil]; exact hown, World.grownBy.refl _ _⟩
    · obtain ⟨v', w', hrun, r1, r2, _⟩ := run_append_own_at (P := P) w base Ts o.type T i0 (.int k 0) 1 by8 ht hi0 hz0 hz1 hz2 rfl (by decide) v l.length (l.map (.int k)) hown ⟨g, 0, none⟩ news.length cap (news.map (.int k)) (by rw [List.length_map]; omega)
        (fun j y hy => by
          have hj : j < news.length := by rw [← List.length_map (f := Value.int k)]; exact (List.getElem?_eq_some_iff.1 hy).1
          obtain ⟨g', cap', hv, hc⟩ := hu.cell j hj
          rw [h1] at hv
          injection hv with e1
          injection e1 with e1
          injection e1 with e1
          subst e1
          rw [show (⟨g, 0, none⟩ : Addr).add j = ⟨g, j, none⟩ by unfold Addr.add; simp; omega, hc, ← hy, List.getElem?_map, List.getElem?_eq_getElem hj, List.getD_eq_getElem?_getD, List.getElem?_eq_getElem hj]; rfl)
        (by simp [Value.oneCell']) (by unfold maxLen; omega) (Nat.le_trans (Nat.mul_le_mul_left _ h8) (by omega)) hbase
      refine ⟨v', w', by rw [h1]; exact hrun, ?_, r2⟩
      unfold OwnsZ
      rw [List.length_append, List.map_append]
      exact r1
  obtain ⟨v', w', hrun, r1, r2⟩ := key
  refine wpList_step fun K hK => ?_
  rw [if_pos hgd]
  unfold Oper.wp
  simp [execOp, ho, resolve, invoke, builtin, hs, hx, hrun, Result.andThen]
  exact hK _ _ (h v' w' r1 r2)
theorem lsameT {v u : Value} {zs : List Int} (w : World) (h : Ints w v zs) (k : Ints w u zs) (h1 : zs.length ≤ 1099511627776) : Calls Tryd.prog 17 #[v, u] w fun e w' => e = .returned (.bool true) ∧ Below w.heap.size w w' := by
  have := lsameW v u zs zs w h k h1 h1
  rwa [decide_eq_true rfl] at this
theorem unitsOK {s : ByteArray} {rs : List Nat} (w : World) (hgl : Glob w) (hs : s.size ≤ 16777216) (h : U.Is (bs s) rs) : Calls Tryd.prog 12 #[.string s] w fun e w' => ∃ p n c, e = .returned (.tuple #[.slice p n c, .int .i64 0]) ∧ OwnsZ w' w.heap.size 3 .i64 (.slice p n c) (U.units rs) ∧ Below w.heap.size w w' := by
  refine (unitsW s w hgl hs).mono ?_
  rintro e w' ⟨hb, ⟨rs', v, h1, rfl, h2⟩ | ⟨h1, rfl⟩⟩
  · obtain rfl := U.Is.unique h1 h
    obtain ⟨p, c, rfl⟩ := h2.shape
    exact ⟨_, _, _, rfl, h2, hb⟩
  · exact absurd h (h1 _)
theorem unitsNo {s : ByteArray} (w : World) (hgl : Glob w) (hs : s.size ≤ 16777216) (h : ∀ rs, ¬ U.Is (bs s) rs) : Calls Tryd.prog 12 #[.string s] w fun e w' => e = .returned (.tuple #[.slice none 0 0, .int .i64 12]) ∧ Below w.heap.size w w' := by
  refine (unitsW s w hgl hs).mono ?_
  rintro e w' ⟨hb, ⟨rs', v, h1, rfl, h2⟩ | ⟨h1, rfl⟩⟩
  · exact absurd h1 (h _)
  · exact ⟨rfl, hb⟩
theorem utf8Is {s : ByteArray} {rs : List Nat} (w : World) (hgl : Glob w) (hs : s.size ≤ 16777216) (h : U.Is (bs s) rs) : Calls Tryd.prog 18 #[.string s] w fun e w' => e = .returned (.bool true) ∧ Below w.heap.size w w' := by
  have := utf8B s w hgl hs
  rwa [U.isB_yes h] at this
theorem utf8Not {s : ByteArray} (w : World) (hgl : Glob w) (hs : s.size ≤ 16777216) (h : ∀ rs, ¬ U.Is (bs s) rs) : Calls Tryd.prog 18 #[.string s] w fun e w' => e = .returned (.bool false) ∧ Below w.heap.size w w' := by
  have := utf8B s w hgl hs
  rwa [U.isB_no h] at this
theorem fu_units {s : ByteArray} {rs : List Nat} (h : U.Is (bs s) rs) : fu (U.units rs) = s ∧ (U.jn (U.units rs)).1 = 0 := by
  have e := U.jn_units rs h.2
  refine ⟨?_, by rw [e]⟩
  unfold fu
  rw [e, if_pos rfl]
  show strOf (U.encs rs) = s
  rw [← h.1, strOf_bs]
theorem bs_fu {zs : List Int} (h : (U.jn zs).1 = 0) : U.Is (bs (fu zs)) (U.jn zs).2 ∧ U.units (U.jn zs).2 = zs := by
  obtain ⟨h1, h2⟩ := U.units_jn zs h
  refine ⟨⟨?_, h2⟩, h1⟩
  unfold fu
  rw [if_pos h, bs_strOf _ (encs_lt _ h2)]
theorem size_fu (zs : List Int) : (fu zs).size ≤ 4 * zs.length := by
  unfold fu
  split
  · rename_i h
    obtain ⟨h1, h2⟩ := U.units_jn zs h
    rw [size_strOf]
    have h3 : ∀ rs : List Nat, (U.encs rs).length ≤ 4 * rs.length ∧ rs.length ≤ (U.units rs).length := fun rs => by
      induction rs with
      | nil => simp [U.encs, U.units]
      | cons r rs ih =>
        rw [U.encs_cons, U.units_cons, List.length_append, List.length_append, List.length_cons]
        have := (U.enc_length r).2
        have h4 : 1 ≤ (U.u16 r).length := by unfold U.u16; split <;> simp
        omega
    have := h3 (U.jn zs).2
    rw [h1] at this
    omega
  · exact Nat.zero_le _
set_option maxHeartbeats 16000000 in
theorem unitsLaw (s t : ByteArray) (vl : Value) (zs : List Int) (w : World) (hgl : Glob w) (hs : s.size ≤ 4194304) (ht : t.size ≤ 4194304) (hzs : zs.length ≤ 4194304) (hz : Ints w vl zs) :
    Calls Tryd.prog 4 #[.string s, .string t, vl] w fun e w' => e = .returned (.bool true) ∧ Below w.heap.size w w' := by
  have HG := Lib.hid hgl
  have HLT := Lib.hid hgl.lt
  have HZ := Lib.hid hz
  obtain ⟨pl, cl, rfl, _⟩ := hz.form
  have HU1 : Hid (∀ u rs, U.Is (bs s) rs → Below w.heap.size w u → Calls Tryd.prog 12 #[.string s] u fun e w' => ∃ p n c, e = .returned (.tuple #[.slice p n c, .int .i64 0]) ∧ OwnsZ w' w.heap.size 3 .i64 (.slice p n c) (U.units rs) ∧ Below w.heap.size w w') := fun u rs hr hu => by
    refine (unitsOK u (HG.out.below hu HLT.out) (by omega) hr).mono ?_
    rintro e w' ⟨p, n, c, rfl, ho, hb⟩
    exact ⟨p, n, c, rfl, ho.mono hu.size, hu.trans (hb.mono hu.size)⟩
  obtain ⟨N, hN⟩ : ∃ N, N = zs.length := ⟨_, rfl⟩
  rw [← hN] at HZ hzs ⊢
  have HN := Lib.hid hN
  clear hz hgl hN
  have key : (∃ rs ts, U.Is (bs s) rs ∧ U.Is (bs t) ts) ∨ (∃ rs, U.Is (bs s) rs ∧ ∀ ts, ¬ U.Is (bs t) ts) ∨ (∀ rs, ¬ U.Is (bs s) rs) := by
    cases h1 : U.isB (bs s)
    · exact .inr (.inr (U.isB_false h1))
    · obtain ⟨rs, hr⟩ := U.isB_true h1
      cases h2 : U.isB (bs t)
      · exact .inr (.inl ⟨rs, hr, U.isB_false h2⟩)
      · obtain ⟨ts, htt⟩ := U.isB_true h2
        exact .inl ⟨rs, ts, hr, htt⟩
  rcases key with ⟨rs, ts, hr, htt⟩ | ⟨rs, hr, hnt⟩ | hns
  case' inr.inr =>
    have HNS := Lib.hid hns
    clear hns
    go_enter Tryd.func4, Tryd.ntmps4
    go_wp2_with fail
    refine (unitsNo w HG.out (by omega) HNS.out).mono ?_
    rintro e w1 ⟨rfl, hb⟩
    have HB1 := Lib.hid hb
    clear hb
    go_wp2_with fail
    refine (fixedW w1 (HG.out.below HB1.out HLT.out)).mono ?_
    rintro e w2 ⟨rfl, hb⟩
    have HB2 := Lib.hid (HB1.out.trans (hb.mono HB1.out.size))
    clear hb
    go_wp2_with fail
    refine (utf8Not w2 (HG.out.below HB2.out HLT.out) (by omega) HNS.out).mono ?_
    rintro e w9 ⟨rfl, hb⟩
    have HB9 := Lib.hid (HB2.out.trans (hb.mono HB2.out.size))
    clear hb
  case' inr.inl =>
    have HR := Lib.hid hr
    have HNT := Lib.hid hnt
    have HNA : Hid (∀ us, ¬ U.Is (bs (s ++ t)) us) := fun us hu => by
      rw [bs_append, hr.1] at hu
      obtain ⟨ts, _, h2⟩ := U.Is.cancel hr.2 hu
      exact hnt ts h2
    clear hr hnt
    go_enter Tryd.func4, Tryd.ntmps4
    go_wp2_with fail
    refine (HU1.out w rs HR.out (Below.refl _ _)).mono ?_
    rintro e w1 ⟨pa, na, ca, rfl, hoa, hb⟩
    have HB1 := Lib.hid hb
    have HA := Lib.hid hoa
    clear hb hoa
    go_wp2_with fail
    refine (fixedW w1 (HG.out.below HB1.out HLT.out)).mono ?_
    rintro e w2 ⟨rfl, hb⟩
    have HB2 := Lib.hid (HB1.out.trans (hb.mono HB1.out.size))
    have HA2 := Lib.hid (HA.out.below hb)
    clear hb
    go_wp2_with fail
    refine (utf8Is w2 (HG.out.below HB2.out HLT.out) (by omega) HR.out).mono ?_
    rintro e w3 ⟨rfl, hb⟩
    have HB3 := Lib.hid (HB2.out.trans (hb.mono HB2.out.size))
    have HA3 := Lib.hid (HA2.out.below hb)
    clear hb
    go_wp2_with fail
    refine (fromUnitsW _ _ w3 (HG.out.below HB3.out HLT.out) HA3.out.ints (by have h1 := units_len rs; have h2 := is_len HR.out; omega)).mono ?_
    rintro e w4 ⟨hb, rfl⟩
    rw [(fu_units HR.out).1, (fu_units HR.out).2]
    have HB4 := Lib.hid (HB3.out.trans (hb.mono HB3.out.size))
    clear hb
    go_wp2_with fail
    refine (unitsNo w4 (HG.out.below HB4.out HLT.out) (by omega) HNT.out).mono ?_
    rintro e w5 ⟨rfl, hb⟩
    have HB5 := Lib.hid (HB4.out.trans (hb.mono HB4.out.size))
    clear hb
    go_wp2_with fail
    refine (unitsNo w5 (HG.out.below HB5.out HLT.out) (by rw [ByteArray.size_append]; omega) HNA.out).mono ?_
    rintro e w9 ⟨rfl, hb⟩
    have HB9 := Lib.hid (HB5.out.trans (hb.mono HB5.out.size))
    clear hb
  case' inl =>
    have HR := Lib.hid hr
    have HT := Lib.hid htt
    have HRT : Hid (U.Is (bs (s ++ t)) (rs ++ ts)) := by unfold Hid; rw [bs_append]; exact hr.append htt
    clear hr htt
    go_enter Tryd.func4, Tryd.ntmps4
    go_wp2_with fail
    refine (HU1.out w rs HR.out (Below.refl _ _)).mono ?_
    rintro e w1 ⟨pa, na, ca, rfl, hoa, hb⟩
    have HB1 := Lib.hid hb
    have HA := Lib.hid hoa
    clear hb hoa
    go_wp2_with fail
    refine (fixedW w1 (HG.out.below HB1.out HLT.out)).mono ?_
    rintro e w2 ⟨rfl, hb⟩
    have HB2 := Lib.hid (HB1.out.trans (hb.mono HB1.out.size))
    have HA2 := Lib.hid (HA.out.below hb)
    clear hb
    go_wp2_with fail
    refine (utf8Is w2 (HG.out.below HB2.out HLT.out) (by omega) HR.out).mono ?_
    rintro e w3 ⟨rfl, hb⟩
    have HB3 := Lib.hid (HB2.out.trans (hb.mono HB2.out.size))
    have HA3 := Lib.hid (HA2.out.below hb)
    clear hb
    go_wp2_with fail
    refine (fromUnitsW _ _ w3 (HG.out.below HB3.out HLT.out) HA3.out.ints (by have h1 := units_len rs; have h2 := is_len HR.out; omega)).mono ?_
    rintro e w4 ⟨hb, rfl⟩
    rw [(fu_units HR.out).1, (fu_units HR.out).2]
    have HB4 := Lib.hid (HB3.out.trans (hb.mono HB3.out.size))
    have HA4 := Lib.hid (HA3.out.below hb)
    clear hb
    go_wp2_with fail
    refine (unitsOK w4 (HG.out.below HB4.out HLT.out) (by omega) HT.out).mono ?_
    rintro e w5 ⟨pb, nb, cb, rfl, hob, hb⟩
    have HB5 := Lib.hid (HB4.out.trans (hb.mono HB4.out.size))
    have HA5 := Lib.hid (HA4.out.below hb)
    have HOB5 := Lib.hid (hob.mono HB4.out.size)
    clear hb hob
    go_wp2_with fail
    refine (unitsOK w5 (HG.out.below HB5.out HLT.out) (by rw [ByteArray.size_append]; omega) HRT.out).mono ?_
    rintro e w6 ⟨pc, nc, cc, rfl, hoc, hb⟩
    have HB6 := Lib.hid (HB5.out.trans (hb.mono HB5.out.size))
    have HA6 := Lib.hid (HA5.out.below hb)
    have HOB6 := Lib.hid (HOB5.out.below hb)
    have HC6 := Lib.hid (hoc.mono HB5.out.size)
    have HL7 : Hid (OwnsZ (w6.alloc (.cells #[] 3)) w6.heap.size 3 .i64 (.slice (some ⟨w6.heap.size, 0, none⟩) 0 0) []) := OwnsZ.lit w6 3 .i64 [] _ (Nat.le_refl _) (by simp) (by show 0 ≤ maxLen; decide)
    have HLA : Hid ((U.units rs).length ≤ 8388608) := by unfold Hid; have h1 := units_len rs; have h2 := is_len HR.out; omega
    have HLB : Hid ((U.units ts).length ≤ 8388608) := by unfold Hid; have h1 := units_len ts; have h2 := is_len HT.out; omega
    clear hb hoc
    go_wp2_with (at_builtin; refine wpList_append_zz rfl (.tmp 67) (.tmp 68) _ rfl Tryd.underlying22 infoI64 (by decide) rfl HL7.out rfl (HA6.out.alloc _) ?n1 ?n2 ?_)
    case n1 => have := HLA.out; simp; omega
    case n2 => simp
    intro v8 w8 ho8 hg8
    have HO8 := Lib.hid ho8
    have HA8 := Lib.hid ((HA6.out.alloc (.cells #[] 3)).grown hg8 (.inr (fun e => absurd (HA6.out.block e).2 (Nat.lt_irrefl _))))
    have HOB8 := Lib.hid ((HOB6.out.alloc (.cells #[] 3)).grown hg8 (.inr (fun e => absurd (HOB6.out.block e).2 (Nat.lt_irrefl _))))
    have HC8 := Lib.hid ((HC6.out.alloc (.cells #[] 3)).grown hg8 (.inr (fun e => absurd (HC6.out.block e).2 (Nat.lt_irrefl _))))
    have HB8 := Lib.hid ((HB6.out.alloc HB6.out.size (.cells #[] 3)).grown hg8 (by have := HB6.out.size; rw [szA]; omega) (fun k hk => by have h1 := (HL7.out.block hk).1; have h2 := HB6.out.size; omega))
    obtain ⟨p8, c8, rfl⟩ := ho8.shape
    have HS8 : Hid (w6.heap.size ≤ w8.heap.size) := by unfold Hid; have := hg8.size; rw [szA] at this; omega
    have HCX : Hid (∀ x, (Value.slice pc nc cc).ownBlock = some x → x < w6.heap.size) := fun x hx => (HC6.out.block hx).2
    clear ho8 hg8
    go_wp2_with (at_builtin; refine wpList_append_zz rfl (.tmp 69) (.tmp 70) _ rfl Tryd.underlying22 infoI64 (by decide) rfl HO8.out rfl HOB8.out ?n3 ?n4 ?_)
    case n3 => have := HLA.out; have := HLB.out; omega
    case n4 => exact HS8.out
    intro v9 w9 ho9 hg9
    have HO9 := Lib.hid ho9
    have HC9 := Lib.hid (HC8.out.other hg9 (fun x hx e => by have h1 := HCX.out x hx; have h2 := (HO8.out.block e).1; omega))
    rw [U.units_append] at HC9
    have HB9a := Lib.hid (HB8.out.grown hg9 (Nat.le_trans HB6.out.size HS8.out) (fun x hx => by have h2 := (HO8.out.block hx).1; have := HB6.out.size; omega))
    have HLL : Hid ((U.units rs ++ U.units ts).length ≤ 1099511627776) := by unfold Hid; rw [List.length_append]; have := HLA.out; have := HLB.out; omega
    clear ho9 hg9
    obtain ⟨p9, c9, hv9⟩ := HO9.out.shape
    subst hv9
    obtain ⟨n9, hn9⟩ : ∃ n, n = (U.units rs ++ U.units ts).length := ⟨_, rfl⟩
    rw [← hn9] at HO9 ⊢
    have HN9 := Lib.hid hn9
    clear hn9
    go_wp2_with fail
    refine (lsameT w9 HC9.out.ints HO9.out.ints HLL.out).mono ?_
    rintro e wx ⟨rfl, hb⟩
    have HBX := Lib.hid (HB9a.out.trans (hb.mono HB9a.out.size))
    clear hb HC9 HO9 HB9a HO8 HA8 HOB8 HC8 HB8
    obtain ⟨w9, hw9⟩ : ∃ w9, w9 = wx := ⟨_, rfl⟩
    rw [← hw9] at HBX ⊢
    have HB9 := HBX
    clear hw9 HBX
  all_goals
    have HZ9 := Lib.hid (HZ.out.below HB9.out)
    go_wp2_with fail
    refine (fromUnitsW _ _ w9 (HG.out.below HB9.out HLT.out) HZ9.out (by rw [← HN.out]; omega)).mono ?_
    rintro e wA ⟨hb, rfl⟩
    have HBA := Lib.hid (HB9.out.trans (hb.mono HB9.out.size))
    have HZA := Lib.hid (HZ9.out.below hb)
    clear hb
    by_cases hE : (U.jn zs).1 = 0
    · obtain ⟨hX1, hX2⟩ := bs_fu hE
      have hsz := size_fu zs
      rw [← HN.out] at hsz
      rw [hE]
      obtain ⟨X, hX⟩ : ∃ X, fu zs = X := ⟨_, rfl⟩
      rw [hX] at hX1 hsz ⊢
      have HX1 := Lib.hid hX1
      have HX2 := Lib.hid hX2
      clear hE hX1 hX2 hX
      go_wp2_with fail
      refine (unitsOK wA (HG.out.below HBA.out HLT.out) (by omega) HX1.out).mono ?_
      rintro e wB ⟨pd, nd, cd, rfl, hod, hb⟩
      have HBB := Lib.hid (HBA.out.trans (hb.mono HBA.out.size))
      have HZB := Lib.hid (HZA.out.below hb)
      have HDB := Lib.hid hod
      rw [HX2.out] at HDB
      clear hb hod
      go_wp2_with fail
      refine (lsameT wB HDB.out.ints HZB.out (by rw [← HN.out]; omega)).mono ?_
      rintro e wC ⟨rfl, hb⟩
      have HBC := Lib.hid (HBB.out.trans (hb.mono HBB.out.size))
      clear hb
      go_wp2_with fail
      refine (utf8Is wC (HG.out.below HBC.out HLT.out) (by omega) HX1.out).mono ?_
      rintro e wD ⟨rfl, hb⟩
      have HBD := Lib.hid (HBC.out.trans (hb.mono HBC.out.size))
      clear hb
      go_wp2_with fail
      go_ret
      exact ⟨rfl, HBD.out⟩
    · have hfu : fu zs = ⟨#[]⟩ := by unfold fu; rw [if_neg hE]
      rw [hfu]
      rcases U.jn_err zs with h | h | h
      · exact absurd h hE
      · rw [h]
        clear hE h hfu
        go_wp2_with fail
        go_ret
        exact ⟨rfl, HBA.out⟩
      · rw [h]
        clear hE h hfu
        go_wp2_with fail
        go_ret
        exact ⟨rfl, HBA.out⟩
end Go.Proofs.YthdoeaiehajofaaDoor
