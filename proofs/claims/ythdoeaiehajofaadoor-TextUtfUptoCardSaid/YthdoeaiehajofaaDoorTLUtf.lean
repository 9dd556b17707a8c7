/- The law TextUtf, walked. -/
import Derived.Test.YthdoeaiehajofaaDoorTLUnits
import Derived.Test.YthdoeaiehajofaaDoorTRUnits
import Derived.Test.YthdoeaiehajofaaDoorTRFrom
namespace Go.Proofs.YthdoeaiehajofaaDoor
set_option linter.unusedVariables false
set_option maxRecDepth 100000
open Go.RowKit
/-- append of a whole slice of integers that came in. -/
theorem wpList_append_in {P : Program} {ops : Array Oper} {rest : List Oper} {o : Oper} {a : Act} {w : World} {Q : Exit → Act → World → Prop} {base : Nat} {T : TypeId} {v u : Value} {l news : List Int} {by8 : Nat}
    (hgd : o.guard = none) (s x : Operand) (Ts : TypeId) (ho : o.op = .call { callee := .builtin .append, args := #[s, x], argTypes := #[Ts, Ts] })
    (ht : P.underlying Ts = some (.slice T)) (hi : (P.info? T).map (fun i => (i.zero, i.size, i.bytes)) = some (some (.int .i64 0), 1, by8)) (h8 : by8 ≤ 8)
    (hs : a.eval s = v) (hown : OwnsZ w base T .i64 v l) (hx : a.eval x = u) (hu : Ints w u news) (hf : u = .slice none 0 0 ∨ ∃ b n c, u = .slice (some b) n c) (hsz : l.length + news.length ≤ 1099511627776) (hbase : base ≤ w.heap.size)
    (h : ∀ v' w', OwnsZ w' base T .i64 v' (l ++ news) → w.grownBy w' v.ownBlock → wpList P ops Q rest (a.put o.dst v') w') : wpList P ops Q (o :: rest) a w := by
  obtain ⟨p, cap, e, hc⟩ := hu.form
  rcases hf with hf | ⟨b, n, c, hf⟩
  · have hn : news.length = 0 := by rw [hf] at e; injection e with _ e _; exact e.symm
    obtain rfl : news = [] := List.eq_nil_of_length_eq_zero hn
    obtain ⟨i0, hi0, hz0, hz1, hz2⟩ := info_parts hi
    refine wpList_plain hgd fun K hK' => ?_
    have hrun := run_append_owned_none (P := P) w base Ts o.type T i0 1 ht hi0 v l.length (l.map (Value.int .i64)) hown
    have := h v w (by rw [List.append_nil]; exact hown) (World.grownBy.refl _ _)
    rw [hf] at hx
    unfold Oper.wp
    simp [execOp, ho, resolve, invoke, builtin, hs, hx, hrun, Result.andThen]
    exact hK' _ _ this
  · rw [hf] at e
    injection e with e1 e2 e3
    subst e2 e3
    refine wpList_append_z hgd s x Ts ho ht hi h8 hs hown b news.length c news (by rw [hx, hf]) rfl (fun j hj => ?_) hsz hbase (fun v' w' q1 q2 _ => h v' w' q1 q2)
    obtain ⟨bb, off, e4, hcell⟩ := hc j hj
    rw [← e1] at e4
    injection e4 with e4
    subst e4
    rw [show (⟨bb, off, none⟩ : Addr).add j = ⟨bb, off + j, none⟩ by unfold Addr.add; split <;> simp_all]
    exact hcell
theorem OwnsZ.set {w : World} {base : Nat} {T : TypeId} {k : IntKind} {g c n : Nat} {l : List Int} (h : OwnsZ w base T k (.slice (some ⟨g, 0, none⟩) n c) l) (i : Nat) (x : Int) :
    OwnsZ (w.setCell ⟨g, i, none⟩ (.int k x)) base T k (.slice (some ⟨g, 0, none⟩) n c) (l.set i x) := by
  rcases h.2 with ⟨h1, _⟩ | ⟨g', cap, cur, h1, h2, h3, h4, h5, h6, h7⟩
  · cases h1
  · injection h1 with e1 e2 e3
    injection e1 with e1
    injection e1 with e1
    subst e1 e2 e3
    refine ⟨by simp, .inr ⟨g, c, cur.setIfInBounds i (.int k x), by simp, h2, heap_setCell_same w g i cur T _ h3, by simpa using h4, h5, by simpa using h6, ?_⟩⟩
    rw [Array.toList_setIfInBounds, List.length_set, List.map_set, ← h7, List.take_set]
theorem OwnsZ.room {w : World} {base : Nat} {T : TypeId} {k : IntKind} {g c n : Nat} {l : List Int} (h : OwnsZ w base T k (.slice (some ⟨g, 0, none⟩) n c) l) (i : Nat) : w.frozen? ⟨g, i, none⟩ = false := by
  rcases h.2 with ⟨h1, _⟩ | ⟨g', cap, cur, h1, h2, h3, h4⟩
  · cases h1
  · injection h1 with e1 e2 e3
    injection e1 with e1
    injection e1 with e1
    subst e1
    exact frozen_of_row w g i _ T h3
theorem Ints.nil (w : World) : Ints w (.slice none 0 0) [] := Ints.mk (zs := []) fun i hi => absurd hi (by simp)
set_option maxHeartbeats 16000000 in
theorem utfLaw (s : ByteArray) (vl : Value) (zs : List Int) (w : World) (hgl : Glob w) (hs : s.size ≤ 4194304) (hzs : zs.length ≤ 4194304) (hz : Ints w vl zs) (hf : vl = .slice none 0 0 ∨ ∃ b n c, vl = .slice (some b) n c) :
    Calls Tryd.prog 3 #[.string s, vl] w fun e w' => e = .returned (.bool true) ∧ Below w.heap.size w w' := by
  have HG := Lib.hid hgl
  have HLT := Lib.hid hgl.lt
  have HZ := Lib.hid hz
  have HZL := Lib.hid hzs
  obtain ⟨us, er, q, hq, hul, HU, HRU, HQ⟩ : ∃ (us : List Int) (er : Int) (q : Bool), (er == 0) = q ∧ us.length ≤ 16777216 ∧
      Hid (∀ u, Below w.heap.size w u → Calls Tryd.prog 12 #[.string s] u fun e w' => ∃ p c, e = .returned (.tuple #[.slice p us.length c, .int .i64 er]) ∧ OwnsZ w' u.heap.size 3 .i64 (.slice p us.length c) us ∧ Below u.heap.size u w') ∧
      Hid (∀ u, Below w.heap.size w u → Calls Tryd.prog 13 #[.string s] u fun e w' => ∃ p c, e = .returned (.tuple #[.slice p us.length c, .int .i64 er]) ∧ OwnsZ w' u.heap.size 3 .i64 (.slice p us.length c) us ∧ Below u.heap.size u w') ∧
      Hid (∀ u, Below w.heap.size w u → Calls Tryd.prog 18 #[.string s] u fun e w' => e = .returned (.bool q) ∧ Below u.heap.size u w') := by
    cases hb : U.isB (bs s)
    · have hn := U.isB_false hb
      refine ⟨[], 12, false, by decide, by simp, fun u hu => ?_, fun u hu => ?_, fun u hu => utf8Not u (hgl.below hu hgl.lt) (by omega) hn⟩
      · refine (unitsNo u (hgl.below hu hgl.lt) (by omega) hn).mono ?_
        rintro e w' ⟨rfl, h⟩
        exact ⟨none, 0, rfl, OwnsZ.nil _ _ _ _, h⟩
      · refine (rUnitsW s u (by omega)).mono ?_
        rintro e w' ⟨h, ⟨rs', v, h1, rfl, h2⟩ | ⟨h1, rfl⟩⟩
        · exact absurd h1 (hn _)
        · exact ⟨none, 0, rfl, OwnsZ.nil _ _ _ _, h⟩
    · obtain ⟨rs, hr⟩ := U.isB_true hb
      refine ⟨U.units rs, 0, true, by decide, by have h1 := units_len rs; have h2 := is_len hr; omega, fun u hu => ?_, fun u hu => ?_, fun u hu => utf8Is u (hgl.below hu hgl.lt) (by omega) hr⟩
      · refine (unitsW s u (hgl.below hu hgl.lt) (by omega)).mono ?_
        rintro e w' ⟨h, ⟨rs', v, h1, rfl, h2⟩ | ⟨h1, rfl⟩⟩
        · obtain rfl := U.Is.unique h1 hr
          obtain ⟨p, c, rfl⟩ := h2.shape
          exact ⟨p, c, rfl, h2, h⟩
        · exact absurd hr (h1 _)
      · refine (rUnitsW s u (by omega)).mono ?_
        rintro e w' ⟨h, ⟨rs', v, h1, rfl, h2⟩ | ⟨h1, rfl⟩⟩
        · obtain rfl := U.Is.unique h1 hr
          obtain ⟨p, c, rfl⟩ := h2.shape
          exact ⟨p, c, rfl, h2, h⟩
        · exact absurd hr (h1 _)
  obtain ⟨X, hX⟩ : ∃ X, fu zs = X := ⟨_, rfl⟩
  obtain ⟨E, hE⟩ : ∃ E, (U.jn zs).1 = E := ⟨_, rfl⟩
  have HF : Hid (∀ u v, Below w.heap.size w u → Ints u v zs → Calls Tryd.prog 14 #[v] u fun e w' => e = .returned (.tuple #[.string X, .int .i64 E]) ∧ Below u.heap.size u w') := fun u v hu hv => by
    refine (fromUnitsW v zs u (HG.out.below hu HLT.out) hv (by have := HZL.out; omega)).mono ?_
    rintro e w' ⟨hb, rfl⟩
    exact ⟨by rw [hX, hE], hb⟩
  have HRF : Hid (∀ u v, Ints u v zs → Calls Tryd.prog 15 #[v] u fun e w' => e = .returned (.tuple #[.string X, .int .i64 E]) ∧ Below u.heap.size u w') := fun u v hv => by
    refine (rFromUnitsW v zs u hv (by have := HZL.out; omega)).mono ?_
    rintro e w' ⟨hb, rfl⟩
    exact ⟨by rw [hX, hE], hb⟩
  obtain ⟨pl, cl, hvl, _⟩ := hz.form
  obtain ⟨n, hn⟩ : ∃ n, n = us.length := ⟨_, rfl⟩
  rw [← hn] at HU HRU hul
  have HN := Lib.hid hn
  have HFO := Lib.hid hf
  have HVL := Lib.hid hvl
  have HL0 : Hid (OwnsZ (w.alloc (.cells #[] 3)) w.heap.size 3 .i64 (.slice (some ⟨w.heap.size, 0, none⟩) 0 0) []) := OwnsZ.lit w 3 .i64 [] _ (Nat.le_refl _) (by simp) (by show 0 ≤ maxLen; decide)
  have HZ0 := Lib.hid (hz.below ((Below.refl _ _).alloc (Nat.le_refl _) (.cells #[] 3)))
  clear hX hE hn hz hgl hzs hf hvl
  go_enter Tryd.func3, Tryd.ntmps3
  go_wp2_with (at_builtin; refine wpList_append_in rfl (.tmp 17) (.tmp 18) _ rfl Tryd.underlying22 infoI64 (by decide) rfl HL0.out rfl HZ0.out HFO.out ?n1 ?n2 ?_)
  case n1 => have := HZL.out; simp; omega
  case n2 => simp
  intro v1 w1 ho hg
  have HO1 := Lib.hid ho
  have HB1 := Lib.hid (((Below.refl _ w).alloc (Nat.le_refl _) (.cells #[] 3)).grown hg (by simp) (fun k hk => (HL0.out.block hk).1))
  have HZ1 := Lib.hid (HZ.out.below HB1.out)
  obtain ⟨p1, c1, rfl⟩ := ho.shape
  clear ho hg
  go_wp2_with fail
  refine (HU.out w1 HB1.out).mono ?_
  rintro e w2 ⟨pa, ca, rfl, hoa, hb⟩
  have HB2 := Lib.hid (HB1.out.trans (hb.mono HB1.out.size))
  have HO2 := Lib.hid (HO1.out.below hb)
  have HZ2 := Lib.hid (HZ1.out.below hb)
  have HA2 := Lib.hid hoa
  clear hb hoa
  go_wp2_with fail
  refine (HRU.out w2 HB2.out).mono ?_
  rintro e w3 ⟨pb, cb, rfl, hob, hb⟩
  have HB3 := Lib.hid (HB2.out.trans (hb.mono HB2.out.size))
  have HO3 := Lib.hid (HO2.out.below hb)
  have HZ3 := Lib.hid (HZ2.out.below hb)
  have HA3 := Lib.hid (HA2.out.below hb)
  have HOB3 := Lib.hid hob
  clear hb hob
  go_wp2_with fail
  refine (HF.out w3 _ HB3.out HO3.out.ints).mono ?_
  rintro e w4 ⟨rfl, hb⟩
  have HB4 := Lib.hid (HB3.out.trans (hb.mono HB3.out.size))
  have HO4 := Lib.hid (HO3.out.below hb)
  have HZ4 := Lib.hid (HZ3.out.below hb)
  have HA4 := Lib.hid (HA3.out.below hb)
  have HOB4 := Lib.hid (HOB3.out.below hb)
  clear hb
  go_wp2_with fail
  refine (HRF.out w4 _ HZ4.out).mono ?_
  rintro e w5 ⟨rfl, hb⟩
  have HB5 := Lib.hid (HB4.out.trans (hb.mono HB4.out.size))
  have HO5 := Lib.hid (HO4.out.below hb)
  have HZ5 := Lib.hid (HZ4.out.below hb)
  have HA5 := Lib.hid (HA4.out.below hb)
  have HOB5 := Lib.hid (HOB4.out.below hb)
  clear hb
  go_wp2_with fail
  refine (fixedW w5 (HG.out.below HB5.out HLT.out)).mono ?_
  rintro e w6 ⟨rfl, hb⟩
  have HB6 := Lib.hid (HB5.out.trans (hb.mono HB5.out.size))
  have HO6 := Lib.hid (HO5.out.below hb)
  have HZ6 := Lib.hid (HZ5.out.below hb)
  have HA6 := Lib.hid (HA5.out.below hb)
  have HOB6 := Lib.hid (HOB5.out.below hb)
  clear hb
  go_wp2_with fail
  refine (lsameT w6 HA6.out.ints HOB6.out.ints (by rw [← HN.out]; omega)).mono ?_
  rintro e w7 ⟨rfl, hb⟩
  have HB7 := Lib.hid (HB6.out.trans (hb.mono HB6.out.size))
  have HO7 := Lib.hid (HO6.out.below hb)
  have HZ7 := Lib.hid (HZ6.out.below hb)
  have HA7 := Lib.hid (HA6.out.below hb)
  have HOB7 := Lib.hid (HOB6.out.below hb)
  clear hb
  go_wp2_with fail
  refine (HQ.out w7 HB7.out).mono ?_
  rintro e w8 ⟨rfl, hb⟩
  have HB8 := Lib.hid (HB7.out.trans (hb.mono HB7.out.size))
  have HO8 := Lib.hid (HO7.out.below hb)
  have HZ8 := Lib.hid (HZ7.out.below hb)
  have HA8 := Lib.hid (HA7.out.below hb)
  have HOB8 := Lib.hid (HOB7.out.below hb)
  clear hb
  go_wp2_with fail
  refine (lsameT w8 HO8.out.ints HZ8.out (by have := HZL.out; simp; omega)).mono ?_
  rintro e w9 ⟨rfl, hb⟩
  have HB9 := Lib.hid (HB8.out.trans (hb.mono HB8.out.size))
  have HA9 := Lib.hid (HA8.out.below hb)
  have HOB9 := Lib.hid (HOB8.out.below hb)
  have HAB : Hid (∀ g, pa = some ⟨g, 0, none⟩ → g < w2.heap.size ∧ w.heap.size ≤ g) := fun g hg => by
    subst hg
    have h1 : w1.heap.size ≤ g ∧ g < w2.heap.size := HA2.out.block rfl
    have h2 := HB1.out.size
    omega
  have HPA : Hid (pa = none ∧ n = 0 ∨ ∃ g, pa = some ⟨g, 0, none⟩) := by
    rcases HA2.out.2 with ⟨h1, h2⟩ | ⟨g, cap, cur, h1, _⟩
    · injection h1 with e1 e2; exact .inl ⟨e1, by rw [HN.out]; exact h2⟩
    · injection h1 with e1; exact .inr ⟨g, e1⟩
  clear hb
  go_wp2_with fail
  go_loopw [14] (fun v14 wr => ∃ (i : Nat) (ys : List Int), i ≤ n ∧ v14 = .int .i64 (i : Nat) ∧ ys.length = n ∧ OwnsZ wr w1.heap.size 3 .i64 (.slice pa n ca) ys ∧ OwnsZ wr w2.heap.size 3 .i64 (.slice pb n cb) us ∧ Below w.heap.size w wr) (fun v14 _ => (n - intOf v14).toNat)
  case atStart => exact ⟨0, us, by omega, rfl, HN.out.symm, HA9.out, HOB9.out, HB9.out⟩
  case round =>
    obtain ⟨i, ys, hi, rfl, hyl, hoy, hou, hbr⟩ := hrel
    have HY := Lib.hid hyl
    have HOY := Lib.hid hoy
    have HOU := Lib.hid hou
    have HBR := Lib.hid hbr
    clear hyl hoy hou hbr
    by_cases hlt : i < n
    · rcases HPA.out with ⟨_, h0⟩ | ⟨g, hg⟩
      · omega
      subst hg
      have hgb := HAB.out g rfl
      obtain ⟨g2, cap2, hv2, hcell⟩ := HOY.out.cell i (by rw [HY.out]; exact hlt)
      injection hv2 with e1
      injection e1 with e1
      injection e1 with e1
      subst e1
      have hfz := HOY.out.room i
      have HGB := Lib.hid hgb
      have HS : Hid (OwnsZ (wr.setCell ⟨g, i, none⟩ (.int .i64 7)) w1.heap.size 3 .i64 (.slice (some ⟨g, 0, none⟩) n ca) (ys.set i 7)) := HOY.out.set i 7
      have HU2 : Hid (OwnsZ (wr.setCell ⟨g, i, none⟩ (.int .i64 7)) w2.heap.size 3 .i64 (.slice pb n cb) us) :=
        HOU.out.grown (row := some g) (grown_set (World.grownBy.refl _ _) _ rfl _) (.inr (fun e => by have h1 := (HOU.out.block e).1; have h2 := HGB.out.1; omega))
      have HB2' : Hid (Below w.heap.size w (wr.setCell ⟨g, i, none⟩ (.int .i64 7))) := HBR.out.setCell HGB.out.2 _
      clear hgb
      go_wp2_with fail
      refine ⟨⟨i + 1, ys.set i 7, by omega, rfl, by rw [List.length_set]; exact HY.out, HS.out, HU2.out, HB2'.out⟩, by simp [intOf]; omega⟩
    · have HIE := Lib.hid (show i = n by omega)
      go_wp2_with fail
      refine (HU.out wr HBR.out).mono ?_
      rintro e wx ⟨px, cx, rfl, hox, hb⟩
      have HBX := Lib.hid (HBR.out.trans (hb.mono HBR.out.size))
      have HOUX := Lib.hid (HOU.out.below hb)
      have HX := Lib.hid hox
      clear hb hox
      go_wp2_with fail
      refine (lsameT wx HX.out.ints HOUX.out.ints (by rw [← HN.out]; omega)).mono ?_
      rintro e wy ⟨rfl, hb⟩
      have HBY := Lib.hid (HBX.out.trans (hb.mono HBX.out.size))
      clear hb
      go_wp2_with fail
      go_ret
      exact ⟨rfl, HBY.out⟩
end Go.Proofs.YthdoeaiehajofaaDoor
