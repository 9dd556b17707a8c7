/- The program's unfolded: the bytes of groups of six bits. -/
import Derived.Test.YthdoeaiehajofaaDoorTNum
import Derived.Test.YthdoeaiehajofaaDoorRU
namespace Go.Proofs.YthdoeaiehajofaaDoor
set_option linter.unusedVariables false
set_option maxRecDepth 20000
open Go.RowKit
/-- The bytes of digits of six bits; none: bits are left that are not 0, or a digit by itself. -/
def unf : List Nat → Option (List Nat)
  | a :: b :: c :: d :: t => (unf t).map fun r => (a * 4 + b / 16) :: (b % 16 * 16 + c / 4) :: (c % 4 * 64 + d) :: r
  | [a, b, c] => if c % 4 = 0 then some [a * 4 + b / 16, b % 16 * 16 + c / 4] else none
  | [a, b] => if b % 16 = 0 then some [a * 4 + b / 16] else none
  | [_] => none
  | [] => some []
theorem pack4 (x y : Nat) (hy : y < 4) : bits .or .u8 (IntKind.u8.wrap ((x : Int) * 4)) (y : Int) = ((x % 64 * 4 + y : Nat) : Int) := by
  rw [IntKind.wrap_u8, show ((x : Int) * 4) % 256 = ((x % 64 * 4 : Nat) : Int) by omega, or_u8' _ _ (by omega) (by omega), show x % 64 * 4 = (x % 64) <<< 2 by rw [Nat.shiftLeft_eq], ← Nat.shiftLeft_add_eq_or_of_lt (by omega)]
theorem pack16 (x y : Nat) (hy : y < 16) : bits .or .u8 (IntKind.u8.wrap ((x : Int) * 16)) (y : Int) = ((x % 16 * 16 + y : Nat) : Int) := by
  rw [IntKind.wrap_u8, show ((x : Int) * 16) % 256 = ((x % 16 * 16 : Nat) : Int) by omega, or_u8' _ _ (by omega) (by omega), show x % 16 * 16 = (x % 16) <<< 4 by rw [Nat.shiftLeft_eq], ← Nat.shiftLeft_add_eq_or_of_lt (by omega)]
theorem pack64 (x y : Nat) (hy : y < 64) : bits .or .u8 (IntKind.u8.wrap ((x : Int) * 64)) (y : Int) = ((x % 4 * 64 + y : Nat) : Int) := by
  rw [IntKind.wrap_u8, show ((x : Int) * 64) % 256 = ((x % 4 * 64 : Nat) : Int) by omega, or_u8' _ _ (by omega) (by omega), show x % 4 * 64 = (x % 4) <<< 6 by rw [Nat.shiftLeft_eq], ← Nat.shiftLeft_add_eq_or_of_lt (by omega)]
theorem resl (g o m mc : Nat) (h : 4 ≤ m) (h2 : m ≤ mc) : ∃ off, (∀ w, (Instr.slice 36 (.slice (some ⟨g, o, none⟩) m mc) (some (.int .i64 4)) none none).run Tryd.prog w = .ok (.slice (some ⟨g, off, none⟩) (m - 4) (mc - 4)) w) ∧ (4 < m → off = o + 4) := by
  have hz : ∀ w, (sizeOf 5).run Tryd.prog w = .ok 1 w := fun w => by kernel_rfl
  by_cases hc : mc = 4
  · exact ⟨o, fun w => by simp [Instr.slice, run_underlying Tryd.underlying36, Instr.sliceBounds, Instr.sliceBound, asIntOf, hz, Result.andThen, hc, show (4 : Int) ≤ (m : Int) by omega], fun h3 => by omega⟩
  · exact ⟨o + 4, fun w => by simp [Instr.slice, run_underlying Tryd.underlying36, Instr.sliceBounds, Instr.sliceBound, asIntOf, hz, Result.andThen, hc, show (4 : Int) ≤ (m : Int) by omega, Addr.add], fun _ => rfl⟩
theorem drop4 (l : List Nat) (i : Nat) (h : i + 4 ≤ l.length) : l.drop i = l.getD i 0 :: l.getD (i + 1) 0 :: l.getD (i + 2) 0 :: l.getD (i + 3) 0 :: l.drop (i + 4) := by
  have e : ∀ j, j < l.length → l.drop j = l.getD j 0 :: l.drop (j + 1) := fun j hj => by
    rw [List.drop_eq_getElem_cons hj, List.getD_eq_getElem?_getD, List.getElem?_eq_getElem hj]; rfl
  rw [e i (by omega), e (i + 1) (by omega), e (i + 2) (by omega), e (i + 3) (by omega)]
theorem getD_range (n : Nat) (f : Nat → Nat) (j : Nat) (h : j < n) : ((List.range n).map f).getD j 0 = f j := by
  rw [List.getD_eq_getElem?_getD, List.getElem?_map, List.getElem?_range h]; rfl
theorem unf_step (n : Nat) (f : Nat → Nat) (i : Nat) (h : i + 4 ≤ n) : unf (((List.range n).map f).drop i) = (unf (((List.range n).map f).drop (i + 4))).map fun r => (f i * 4 + f (i + 1) / 16) :: (f (i + 1) % 16 * 16 + f (i + 2) / 4) :: (f (i + 2) % 4 * 64 + f (i + 3)) :: r := by
  rw [drop4 _ i (by simp; omega), getD_range n f i (by omega), getD_range n f (i + 1) (by omega), getD_range n f (i + 2) (by omega), getD_range n f (i + 3) (by omega), unf]
theorem step_append_b {ops : Array Oper} {o : Oper} {a : Act} {w : World} {K : Act → World → Prop} {Q : Exit → Act → World → Prop} {E : Prop} {base : Nat} {v : Value} {l : List Nat} {e : TypeId} {P : Program}
    (hgd : o.guard = none) (s x : Operand) (t : TypeId) (ho : o.op = .call { callee := .builtin .append, args := #[s, x], argTypes := #[t, t] })
    (ht : P.underlying t = some (.slice e)) (hi : (P.info? e).map (fun i => (i.zero, i.size, i.bytes)) = some (some (.int .u8 0), 1, 1))
    (hs : a.eval s = v) (hown : Owns w base e v l) (ad : Addr) (m c : Nat) (news : List Nat) (hx : a.eval x = .slice (some ad) m c) (hm : news.length = m)
    (hnews : ∀ j, j < m → w.cell? (ad.add j) = some (.int .u8 (news.getD j 0 : Nat))) (hsz : l.length + m ≤ 140737488355328) (hbase : base ≤ w.heap.size)
    (h : ∀ v' w', Owns w' base e v' (l ++ news) → w.grownBy w' v.ownBlock → K (a.put o.dst v') w') :
    if Region.wanted o (yielded ops a.tmps) = true then Oper.wp P o a w K Q else E := by
  obtain ⟨i0, hi0, hz0, hz1, hz2⟩ := info_parts hi
  refine step_append_own hgd s x t ho base e i0 (.int .u8 0) 1 1 ht hi0 hz0 hz1 hz2 rfl (by decide) v l.length (nums .u8 l) hs hown ad m c (nums .u8 news) hx (by rw [length_nums]; omega) ?_ (oneCell_nums .u8 news) (by unfold maxLen; omega) (by omega) hbase ?_
  · intro j u hu
    have hj : j < news.length := by rw [← length_nums .u8 news]; exact (List.getElem?_eq_some_iff.1 hu).1
    rw [hnews j (by omega), ← hu]
    simp [nums, hj]
  · intro v' w' h1 h2
    refine h v' w' ?_ h2
    unfold Owns
    rw [List.length_append, hm]
    have : nums .u8 (l ++ news) = nums .u8 l ++ nums .u8 news := by simp [nums]
    rw [this]; exact h1
theorem step_append_none {P : Program} {ops : Array Oper} {o : Oper} {a : Act} {w : World} {K : Act → World → Prop} {Q : Exit → Act → World → Prop} {E : Prop} {base : Nat} {e : TypeId} {v : Value} {l : List Nat}
    (hgd : o.guard = none) (s x : Operand) (t : TypeId) (ho : o.op = .call { callee := .builtin .append, args := #[s, x], argTypes := #[t, t] })
    (ht : P.underlying t = some (.slice e)) (hi : (P.info? e).map (fun i => (i.zero, i.size, i.bytes)) = some (some (.int .u8 0), 1, 1))
    (hs : a.eval s = v) (hown : Owns w base e v l) (hx : a.eval x = .slice none 0 0) (h : K (a.put o.dst v) w) :
    if Region.wanted o (yielded ops a.tmps) = true then Oper.wp P o a w K Q else E := by
  obtain ⟨i0, hi0, hz0, hz1, hz2⟩ := info_parts hi
  have hw : Region.wanted o (yielded ops a.tmps) = true := by simp [Region.wanted, hgd]
  rw [if_pos hw]
  have hrun := run_append_owned_none (P := P) w base t o.type e i0 1 ht hi0 v l.length (nums .u8 l) hown
  unfold Oper.wp
  simp [execOp, ho, resolve, invoke, builtin, hs, hx, hrun, Result.andThen]
  exact h
theorem wpList_append_none {P : Program} {ops : Array Oper} {rest : List Oper} {o : Oper} {a : Act} {w : World} {Q : Exit → Act → World → Prop} {base : Nat} {e : TypeId} {v : Value} {l : List Nat}
    (hgd : o.guard = none) (s x : Operand) (t : TypeId) (ho : o.op = .call { callee := .builtin .append, args := #[s, x], argTypes := #[t, t] })
    (ht : P.underlying t = some (.slice e)) (hi : (P.info? e).map (fun i => (i.zero, i.size, i.bytes)) = some (some (.int .u8 0), 1, 1))
    (hs : a.eval s = v) (hown : Owns w base e v l) (hx : a.eval x = .slice none 0 0) (h : wpList P ops Q rest (a.put o.dst v) w) : wpList P ops Q (o :: rest) a w := by
  obtain ⟨i0, hi0, hz0, hz1, hz2⟩ := info_parts hi
  refine wpList_plain hgd fun K hK' => ?_
  have hrun := run_append_owned_none (P := P) w base t o.type e i0 1 ht hi0 v l.length (nums .u8 l) hown
  unfold Oper.wp
  simp [execOp, ho, resolve, invoke, builtin, hs, hx, hrun, Result.andThen]
  exact hK' _ _ h
theorem two_of (l : List Nat) (h : l.length = 2) : l = [l.getD 0 0, l.getD 1 0] := by
  match l, h with | [_, _], _ => rfl
theorem three_of (l : List Nat) (h : l.length = 3) : l = [l.getD 0 0, l.getD 1 0, l.getD 2 0] := by
  match l, h with | [_, _, _], _ => rfl
def lenOf : Value → Nat
  | .slice _ n _ => n
  | _ => 0
def UnfPost (w : World) (ds : List Nat) (ev : Ending) (w' : World) : Prop := Below w.heap.size w w' ∧
  ((∃ bsx v, unf ds = some bsx ∧ ev = .returned (.tuple #[v, .nilIface]) ∧ Owns w' w.heap.size 5 v bsx) ∨
   (unf ds = none ∧ ∃ p, ev = .returned (.tuple #[.slice none 0 0, TErr p 11])))
set_option maxHeartbeats 4000000 in
theorem unfoldedW (g n c : Nat) (f : Nat → Nat) (w : World) (hgl : Glob w) (hr : Row w g 5 .u8 n f) (hn : n ≤ 16777216) (hc : n ≤ c) (hf : ∀ j, j < n → f j < 64) :
    Calls Tryd.prog 49 #[.slice (some ⟨g, 0, none⟩) n c] w (UnfPost w ((List.range n).map f)) := by
  have HG := Lib.hid hgl
  have HR := Lib.hid hr
  have HGW := Lib.hid hr.lt
  clear hgl hr
  go_enter Tryd.func49, Tryd.ntmps49
  go_wp2_with fail
  go_loopw [0, 4] (fun v0 v4 wr => ∃ (i off : Nat) (acc : List Nat), 4 * i ≤ n ∧ (4 * i < n → off = 4 * i) ∧ v0 = .slice (some ⟨g, off, none⟩) (n - 4 * i) (c - 4 * i) ∧
      unf ((List.range n).map f) = (unf (((List.range n).map f).drop (4 * i))).map (acc ++ ·) ∧ acc.length = 3 * i ∧ Owns wr w.heap.size 5 v4 acc ∧ Below w.heap.size w wr) (fun v0 _ _ => lenOf v0)
  case atStart => exact ⟨0, 0, [], by omega, fun _ => rfl, by simp, by simp, rfl, Owns.nil _ _ _, Below.refl _ _⟩
  case round =>
    obtain ⟨i, off, acc, hi, ho, rfl, hu, hal, hown, hb⟩ := hrel
    obtain ⟨p4, c4, rfl⟩ := hown.shape
    obtain ⟨L, hL⟩ : ∃ L, L = acc.length := ⟨_, rfl⟩
    rw [← hL] at hown hal ⊢
    have HO := Lib.hid hown
    have HB := Lib.hid hb
    have HU := Lib.hid hu
    have HL := Lib.hid hL
    have HRW := Lib.hid (HR.out.below hb HR.out.lt)
    have HAL := Lib.hid hal
    have hlL : L ≤ 16777216 := by omega
    clear hown hb hu hL hal
    by_cases h4 : 4 * i + 4 ≤ n
    · obtain rfl : off = 4 * i := ho (by omega)
      have k0 := HRW.out.cell (j := 4 * i) (by omega)
      have k1 := HRW.out.cell (j := 4 * i + 1) (by omega)
      have k2 := HRW.out.cell (j := 4 * i + 2) (by omega)
      have k3 := HRW.out.cell (j := 4 * i + 3) (by omega)
      have b0 := hf (4 * i) (by omega)
      have b1 := hf (4 * i + 1) (by omega)
      have b2 := hf (4 * i + 2) (by omega)
      have b3 := hf (4 * i + 3) (by omega)
      obtain ⟨x0, hx0⟩ : ∃ x, x = f (4 * i) := ⟨_, rfl⟩
      obtain ⟨x1, hx1⟩ : ∃ x, x = f (4 * i + 1) := ⟨_, rfl⟩
      obtain ⟨x2, hx2⟩ : ∃ x, x = f (4 * i + 2) := ⟨_, rfl⟩
      obtain ⟨x3, hx3⟩ : ∃ x, x = f (4 * i + 3) := ⟨_, rfl⟩
      rw [← hx0] at k0 b0
      rw [← hx1] at k1 b1
      rw [← hx2] at k2 b2
      rw [← hx3] at k3 b3
      obtain ⟨o, ho'⟩ : ∃ o, o = 4 * i := ⟨_, rfl⟩
      rw [← ho'] at k0 k1 k2 k3 ⊢
      obtain ⟨m, hm⟩ : ∃ m, m = n - o := ⟨_, rfl⟩
      obtain ⟨mc, hmc⟩ : ∃ m, m = c - o := ⟨_, rfl⟩
      rw [← hm, ← hmc]
      have hm4 : 4 ≤ m := by omega
      have hmc4 : m ≤ mc := by omega
      have j0 : 0 < m := by omega
      have j1 : 1 < m := by omega
      have j2 : 2 < m := by omega
      have j3 : 3 < m := by omega
      have z0 : (0 : Int) < (m : Int) := by omega
      have z1 : (1 : Int) < (m : Int) := by omega
      have z2 : (2 : Int) < (m : Int) := by omega
      have z3 : (3 : Int) < (m : Int) := by omega
      have F0 : Hid (f o = x0) := by unfold Hid; rw [ho', hx0]
      have F1 : Hid (f (o + 1) = x1) := by unfold Hid; rw [ho', hx1]
      have F2 : Hid (f (o + 2) = x2) := by unfold Hid; rw [ho', hx2]
      have F3 : Hid (f (o + 3) = x3) := by unfold Hid; rw [ho', hx3]
      have HLB := Lib.hid hlL
      have HX0 := Lib.hid hx0
      have HX1 := Lib.hid hx1
      have HX2 := Lib.hid hx2
      have HX3 := Lib.hid hx3
      have HOO := Lib.hid ho'
      have HM := Lib.hid hm
      have HMC := Lib.hid hmc
      obtain ⟨y0, hy0⟩ : ∃ y, y = x0 * 4 + x1 / 16 := ⟨_, rfl⟩
      obtain ⟨y1, hy1⟩ : ∃ y, y = x1 % 16 * 16 + x2 / 4 := ⟨_, rfl⟩
      obtain ⟨y2, hy2⟩ : ∃ y, y = x2 % 4 * 64 + x3 := ⟨_, rfl⟩
      have e0 : bits .or .u8 (IntKind.u8.wrap ((x0 : Int) * 4)) ((x1 : Int) / 16) = (y0 : Int) := by
        rw [show (x1 : Int) / 16 = ((x1 / 16 : Nat) : Int) by omega, pack4 _ _ (by omega)]; omega
      have e1 : bits .or .u8 (IntKind.u8.wrap ((x1 : Int) * 16)) ((x2 : Int) / 4) = (y1 : Int) := by
        rw [show (x2 : Int) / 4 = ((x2 / 4 : Nat) : Int) by omega, pack16 _ _ (by omega)]; omega
      have e2 : bits .or .u8 (IntKind.u8.wrap ((x2 : Int) * 64)) (x3 : Int) = (y2 : Int) := by
        rw [pack64 _ _ b3]; omega
      have HY : Hid ([y0, y1, y2] = [x0 * 4 + x1 / 16, x1 % 16 * 16 + x2 / 4, x2 % 4 * 64 + x3]) := by unfold Hid; rw [hy0, hy1, hy2]
      obtain ⟨off', hsl, hof⟩ := resl g o m mc hm4 hmc4
      have HOF := Lib.hid hof
      clear hx0 hx1 hx2 hx3 ho' hm hmc ho hy0 hy1 hy2 hof k0 k1 k2 k3
      go_wp2_with fail
      refine wp_region_U 29 (fun u => Row u g 5 .u8 n f) (by kernel_rfl) ?_
      change wpAnyU _ _ _ _ _ _ 30 (Array.replicate 30 false) _ _
      obtain ⟨w2, hw2⟩ : ∃ w2, w2 = wr.drew := ⟨_, rfl⟩
      rw [← hw2]
      have HO2 : Hid (Owns w2 w.heap.size 5 (.slice p4 L c4) acc) := by unfold Hid; rw [hw2]; exact HO.out.below (Below.refl _ _).drew
      have HB2 : Hid (Below w.heap.size w w2) := by unfold Hid; rw [hw2]; exact HB.out.drew
      have HS2 : Hid (Row w2 g 5 .u8 n f) := by unfold Hid; rw [hw2]; exact HRW.out.drew
      clear hw2 HO HB HRW
      refine takeU 0 (v := ?_) rfl (by kernel_rfl) (by kernel_rfl) (fun _ _ _ h => h) rfl (fun u hu => ?_) HS2.out ?_
      rotate_left
      · skip; go_simp <;> with_reducible rfl
      simp only [Act.put, List.setIfInBounds_toArray, List.set_cons_zero, List.set_cons_succ]
      refine takeU 1 (v := ?_) rfl (by kernel_rfl) (by kernel_rfl) (fun _ _ _ h => h) rfl (fun u hu => ?_) HS2.out ?_
      rotate_left
      · skip; go_simp <;> with_reducible rfl
      simp only [Act.put, List.setIfInBounds_toArray, List.set_cons_zero, List.set_cons_succ]
      refine takeU 2 (v := ?_) rfl (by kernel_rfl) (by kernel_rfl) (fun _ _ _ h => h) rfl (fun u hu => ?_) HS2.out ?_
      rotate_left
      · skip; go_simp <;> with_reducible rfl
      simp only [Act.put, List.setIfInBounds_toArray, List.set_cons_zero, List.set_cons_succ]
      refine takeU 3 (v := ?_) rfl (by kernel_rfl) (by kernel_rfl) (fun _ _ _ h => h) rfl (fun u hu => ?_) HS2.out ?_
      rotate_left
      · have k0 := hu.cell (j := o) (by have := HOO.out; omega); have k1 := hu.cell (j := o + 1) (by have := HOO.out; omega); have k2 := hu.cell (j := o + 2) (by have := HOO.out; omega); have k3 := hu.cell (j := o + 3) (by have := HOO.out; omega); rw [F0.out] at k0; rw [F1.out] at k1; rw [F2.out] at k2; rw [F3.out] at k3; go_simp <;> with_reducible rfl
      simp only [Act.put, List.setIfInBounds_toArray, List.set_cons_zero, List.set_cons_succ]
      refine takeU 4 (v := ?_) rfl (by kernel_rfl) (by kernel_rfl) (fun _ _ _ h => h) rfl (fun u hu => ?_) HS2.out ?_
      rotate_left
      · skip; go_simp <;> with_reducible rfl
      simp only [Act.put, List.setIfInBounds_toArray, List.set_cons_zero, List.set_cons_succ]
      refine takeU 5 (v := ?_) rfl (by kernel_rfl) (by kernel_rfl) (fun _ _ _ h => h) rfl (fun u hu => ?_) HS2.out ?_
      rotate_left
      · skip; go_simp <;> with_reducible rfl
      simp only [Act.put, List.setIfInBounds_toArray, List.set_cons_zero, List.set_cons_succ]
      refine takeU 6 (v := ?_) rfl (by kernel_rfl) (by kernel_rfl) (fun _ _ _ h => h) rfl (fun u hu => ?_) HS2.out ?_
      rotate_left
      · skip; go_simp <;> with_reducible rfl
      simp only [Act.put, List.setIfInBounds_toArray, List.set_cons_zero, List.set_cons_succ]
      refine takeU 7 (v := ?_) rfl (by kernel_rfl) (by kernel_rfl) (fun _ _ _ h => h) rfl (fun u hu => ?_) HS2.out ?_
      rotate_left
      · have k0 := hu.cell (j := o) (by have := HOO.out; omega); have k1 := hu.cell (j := o + 1) (by have := HOO.out; omega); have k2 := hu.cell (j := o + 2) (by have := HOO.out; omega); have k3 := hu.cell (j := o + 3) (by have := HOO.out; omega); rw [F0.out] at k0; rw [F1.out] at k1; rw [F2.out] at k2; rw [F3.out] at k3; go_simp <;> with_reducible rfl
      simp only [Act.put, List.setIfInBounds_toArray, List.set_cons_zero, List.set_cons_succ]
      refine takeU 8 (v := ?_) rfl (by kernel_rfl) (by kernel_rfl) (fun _ _ _ h => h) rfl (fun u hu => ?_) HS2.out ?_
      rotate_left
      · skip; go_simp <;> with_reducible rfl
      simp only [Act.put, List.setIfInBounds_toArray, List.set_cons_zero, List.set_cons_succ]
      refine takeU 9 (v := ?_) rfl (by kernel_rfl) (by kernel_rfl) (fun _ _ _ h => h) rfl (fun u hu => ?_) HS2.out ?_
      rotate_left
      · skip; go_simp <;> with_reducible rfl
      simp only [Act.put, List.setIfInBounds_toArray, List.set_cons_zero, List.set_cons_succ]
      refine takeU 10 (v := ?_) rfl (by kernel_rfl) (by kernel_rfl) (fun _ _ _ h => h) rfl (fun u hu => ?_) HS2.out ?_
      rotate_left
      · skip; go_simp <;> with_reducible rfl
      simp only [Act.put, List.setIfInBounds_toArray, List.set_cons_zero, List.set_cons_succ]
      refine takeU 11 (v := ?_) rfl (by kernel_rfl) (by kernel_rfl) (fun _ _ _ h => h) rfl (fun u hu => ?_) HS2.out ?_
      rotate_left
      · skip; go_simp <;> with_reducible rfl
      simp only [Act.put, List.setIfInBounds_toArray, List.set_cons_zero, List.set_cons_succ]
      refine takeU 12 (v := ?_) rfl (by kernel_rfl) (by kernel_rfl) (fun _ _ _ h => h) rfl (fun u hu => ?_) HS2.out ?_
      rotate_left
      · have k0 := hu.cell (j := o) (by have := HOO.out; omega); have k1 := hu.cell (j := o + 1) (by have := HOO.out; omega); have k2 := hu.cell (j := o + 2) (by have := HOO.out; omega); have k3 := hu.cell (j := o + 3) (by have := HOO.out; omega); rw [F0.out] at k0; rw [F1.out] at k1; rw [F2.out] at k2; rw [F3.out] at k3; go_simp <;> with_reducible rfl
      simp only [Act.put, List.setIfInBounds_toArray, List.set_cons_zero, List.set_cons_succ]
      refine takeU 13 (v := ?_) rfl (by kernel_rfl) (by kernel_rfl) (fun _ _ _ h => h) rfl (fun u hu => ?_) HS2.out ?_
      rotate_left
      · skip; go_simp <;> with_reducible rfl
      simp only [Act.put, List.setIfInBounds_toArray, List.set_cons_zero, List.set_cons_succ]
      refine takeU 14 (v := ?_) rfl (by kernel_rfl) (by kernel_rfl) (fun _ _ _ h => h) rfl (fun u hu => ?_) HS2.out ?_
      rotate_left
      · skip; go_simp <;> with_reducible rfl
      simp only [Act.put, List.setIfInBounds_toArray, List.set_cons_zero, List.set_cons_succ]
      refine takeU 15 (v := ?_) rfl (by kernel_rfl) (by kernel_rfl) (fun _ _ _ h => h) rfl (fun u hu => ?_) HS2.out ?_
      rotate_left
      · skip; go_simp <;> with_reducible rfl
      simp only [Act.put, List.setIfInBounds_toArray, List.set_cons_zero, List.set_cons_succ]
      refine takeU 16 (v := ?_) rfl (by kernel_rfl) (by kernel_rfl) (fun _ _ _ h => h) rfl (fun u hu => ?_) HS2.out ?_
      rotate_left
      · have k0 := hu.cell (j := o) (by have := HOO.out; omega); have k1 := hu.cell (j := o + 1) (by have := HOO.out; omega); have k2 := hu.cell (j := o + 2) (by have := HOO.out; omega); have k3 := hu.cell (j := o + 3) (by have := HOO.out; omega); rw [F0.out] at k0; rw [F1.out] at k1; rw [F2.out] at k2; rw [F3.out] at k3; go_simp <;> with_reducible rfl
      simp only [Act.put, List.setIfInBounds_toArray, List.set_cons_zero, List.set_cons_succ]
      refine takeU 17 (v := ?_) rfl (by kernel_rfl) (by kernel_rfl) (fun _ _ _ h => h) rfl (fun u hu => ?_) HS2.out ?_
      rotate_left
      · skip; go_simp <;> with_reducible rfl
      simp only [Act.put, List.setIfInBounds_toArray, List.set_cons_zero, List.set_cons_succ]
      refine takeU 18 (v := ?_) rfl (by kernel_rfl) (by kernel_rfl) (fun _ _ _ h => h) rfl (fun u hu => ?_) HS2.out ?_
      rotate_left
      · skip; go_simp <;> with_reducible rfl
      simp only [Act.put, List.setIfInBounds_toArray, List.set_cons_zero, List.set_cons_succ]
      refine takeU 19 (v := ?_) rfl (by kernel_rfl) (by kernel_rfl) (fun _ _ _ h => h) rfl (fun u hu => ?_) HS2.out ?_
      rotate_left
      · skip; go_simp <;> with_reducible rfl
      simp only [Act.put, List.setIfInBounds_toArray, List.set_cons_zero, List.set_cons_succ]
      refine takeU 20 (v := ?_) rfl (by kernel_rfl) (by kernel_rfl) (fun _ _ _ h => h) rfl (fun u hu => ?_) HS2.out ?_
      rotate_left
      · skip; go_simp <;> with_reducible rfl
      simp only [Act.put, List.setIfInBounds_toArray, List.set_cons_zero, List.set_cons_succ]
      refine takeU 21 (v := ?_) rfl (by kernel_rfl) (by kernel_rfl) (fun _ _ _ h => h) rfl (fun u hu => ?_) HS2.out ?_
      rotate_left
      · have k0 := hu.cell (j := o) (by have := HOO.out; omega); have k1 := hu.cell (j := o + 1) (by have := HOO.out; omega); have k2 := hu.cell (j := o + 2) (by have := HOO.out; omega); have k3 := hu.cell (j := o + 3) (by have := HOO.out; omega); rw [F0.out] at k0; rw [F1.out] at k1; rw [F2.out] at k2; rw [F3.out] at k3; go_simp <;> with_reducible rfl
      simp only [Act.put, List.setIfInBounds_toArray, List.set_cons_zero, List.set_cons_succ]
      refine takeU 22 (v := ?_) rfl (by kernel_rfl) (by kernel_rfl) (fun _ _ _ h => h) rfl (fun u hu => ?_) HS2.out ?_
      rotate_left
      · skip; go_simp <;> with_reducible rfl
      simp only [Act.put, List.setIfInBounds_toArray, List.set_cons_zero, List.set_cons_succ]
      refine takeU 23 (v := ?_) rfl (by kernel_rfl) (by kernel_rfl) (fun _ _ _ h => h) rfl (fun u hu => ?_) HS2.out ?_
      rotate_left
      · skip; go_simp <;> with_reducible rfl
      simp only [Act.put, List.setIfInBounds_toArray, List.set_cons_zero, List.set_cons_succ]
      refine takeU 24 (v := ?_) rfl (by kernel_rfl) (by kernel_rfl) (fun _ _ _ h => h) rfl (fun u hu => ?_) HS2.out ?_
      rotate_left
      · skip; go_simp <;> with_reducible rfl
      simp only [Act.put, List.setIfInBounds_toArray, List.set_cons_zero, List.set_cons_succ]
      refine takeU 25 (v := ?_) rfl (by kernel_rfl) (by kernel_rfl) (fun _ _ _ h => h) rfl (fun u hu => ?_) HS2.out ?_
      rotate_left
      · have k0 := hu.cell (j := o) (by have := HOO.out; omega); have k1 := hu.cell (j := o + 1) (by have := HOO.out; omega); have k2 := hu.cell (j := o + 2) (by have := HOO.out; omega); have k3 := hu.cell (j := o + 3) (by have := HOO.out; omega); rw [F0.out] at k0; rw [F1.out] at k1; rw [F2.out] at k2; rw [F3.out] at k3; go_simp <;> with_reducible rfl
      simp only [Act.put, List.setIfInBounds_toArray, List.set_cons_zero, List.set_cons_succ]
      refine takeU 26 (v := ?_) rfl (by kernel_rfl) (by kernel_rfl) (fun _ _ _ h => h) rfl (fun u hu => ?_) HS2.out ?_
      rotate_left
      · skip; go_simp <;> with_reducible rfl
      simp only [Act.put, List.setIfInBounds_toArray, List.set_cons_zero, List.set_cons_succ]
      refine oneU 27 (by kernel_rfl) ?_
      refine someU 27 rfl (by kernel_rfl) ?_
      refine step_run rfl (.slice (some ⟨w2.heap.size, 0, none⟩) 3 3) (w2.alloc (.cells #[.int .u8 (y0 : Int), .int .u8 (y1 : Int), .int .u8 (y2 : Int)] 5)) (by go_simp) ?_
      have HS3 := Lib.hid (HS2.out.alloc (.cells #[.int .u8 (y0 : Int), .int .u8 (y1 : Int), .int .u8 (y2 : Int)] 5))
      have HO3 := Lib.hid (HO2.out.alloc (.cells #[.int .u8 (y0 : Int), .int .u8 (y1 : Int), .int .u8 (y2 : Int)] 5))
      have HB3 := Lib.hid (HB2.out.alloc HB2.out.size (.cells #[.int .u8 (y0 : Int), .int .u8 (y1 : Int), .int .u8 (y2 : Int)] 5))
      have HC3 : Hid (∀ j, j < 3 → (w2.alloc (.cells #[.int .u8 (y0 : Int), .int .u8 (y1 : Int), .int .u8 (y2 : Int)] 5)).cell? ((⟨w2.heap.size, 0, none⟩ : Addr).add j) = some (.int .u8 ([y0, y1, y2].getD j 0 : Nat))) := by
        intro j hj; rcases j with _ | _ | _ | j <;> first | (simp [Addr.add]; done) | omega
      have HSZ3 : Hid (w.heap.size ≤ (w2.alloc (.cells #[.int .u8 (y0 : Int), .int .u8 (y1 : Int), .int .u8 (y2 : Int)] 5)).heap.size) := by unfold Hid; rw [szA]; have := HB2.out.size; omega
      refine ⟨HS3.out, ?_⟩
      simp only [Act.put, List.setIfInBounds_toArray, List.set_cons_zero, List.set_cons_succ]
      refine oneU 28 (by kernel_rfl) ?_
      refine someU 28 rfl (by kernel_rfl) ?_
      refine step_append_b rfl _ _ 36 rfl Tryd.underlying36 infoU8 rfl HO3.out ⟨w2.heap.size, 0, none⟩ 3 3 [y0, y1, y2] rfl rfl HC3.out (by have := HL.out; have := HLB.out; omega) HSZ3.out ?_
      intro v5 w5 ho5 hg5
      have HO5 := Lib.hid ho5
      have HB5 := Lib.hid (HB3.out.grown hg5 HSZ3.out (fun k hk => (HO3.out.block hk).1))
      have HS5 := Lib.hid (HS3.out.grown hg5 (fun e => by have h1 := (HO3.out.block e.symm).1; have h2 := HGW.out; omega))
      clear ho5 hg5 HO3 HB3 HS3 HC3 HSZ3 HO2 HB2 HS2
      refine ⟨HS5.out, ?_⟩
      simp only [Act.put, List.setIfInBounds_toArray, List.set_cons_zero, List.set_cons_succ]
      refine oneU 29 (by kernel_rfl) ?_
      refine endU (v := ?_) 29 rfl (by kernel_rfl) (by kernel_rfl) rfl ?_ ?_
      rotate_left
      · go_simp <;> with_reducible rfl
      simp only [Act.put, List.setIfInBounds_toArray, List.set_cons_zero, List.set_cons_succ]
      go_wp2_with fail
      refine ⟨⟨i + 1, off', acc ++ [y0, y1, y2], ?_, ?_, ?_, ?_, ?_, HO5.out, HB5.out⟩, ?_⟩
      · have := HM.out; have := HOO.out; omega
      · intro h; rw [HOF.out (by have := HM.out; have := HOO.out; omega), HOO.out]; omega
      · have h1 := HM.out; have h2 := HMC.out; have h3 := HOO.out; congr 1 <;> omega
      · rw [HU.out, unf_step n f (4 * i) h4, Option.map_map, show 4 * (i + 1) = 4 * i + 4 by omega, HY.out, HX0.out, HX1.out, HX2.out, HX3.out]
        congr 1
        funext r
        simp
      · have := HAL.out; have := HL.out; simp; omega
      · simp only [lenOf]; omega
    · have hm : n - 4 * i = 0 ∨ n - 4 * i = 1 ∨ n - 4 * i = 2 ∨ n - 4 * i = 3 := by omega
      have hld : (((List.range n).map f).drop (4 * i)).length = n - 4 * i := by simp
      rcases hm with hm | hm | hm | hm
      · have e : unf ((List.range n).map f) = some acc := by
          rw [HU.out, List.drop_of_length_le (by simp; omega)]; simp [unf]
        have HE := Lib.hid e
        rw [hm]
        clear e hld hm
        go_wp2_with (at_builtin; refine wpList_append_none rfl _ _ _ rfl Tryd.underlying36 infoU8 rfl HO.out rfl ?_)
        go_ret2
        exact ⟨HB.out, .inl ⟨acc, _, HE.out, rfl, HO.out⟩⟩
      · have e : unf ((List.range n).map f) = none := by
          rw [HU.out]
          obtain ⟨x, hx⟩ := List.length_eq_one_iff.1 (hld.trans hm)
          rw [hx]; rfl
        have HE := Lib.hid e
        have HA : Hid (∀ w0, w0 = wr → Calls Tryd.prog 47 #[.int .i64 (L : Nat), .int .i64 11] w0 fun ev w' => (∃ s, ev = .returned (TErr s 11)) ∧ Below w0.heap.size w0 w') := fun w0 e => by
          subst e
          exact atW (L : Nat) 11 (by omega) (by omega) _ (HG.out.below HB.out HG.out.lt)
        rw [hm]
        clear e hld hm
        go_wp2_with (go_at_call 47; refine (HA.out _ rfl).mono ?_; rintro e w5 ⟨⟨p, rfl⟩, hb5⟩)
        go_ret2
        exact ⟨HB.out.trans (hb5.mono HB.out.size), .inr ⟨HE.out, p, rfl⟩⟩
      · obtain rfl : off = 4 * i := ho (by omega)
        obtain ⟨x0, hx0⟩ : ∃ x, x = f (4 * i) := ⟨_, rfl⟩
        obtain ⟨x1, hx1⟩ : ∃ x, x = f (4 * i + 1) := ⟨_, rfl⟩
        have b0 : x0 < 64 := by rw [hx0]; exact hf _ (by omega)
        have b1 : x1 < 64 := by rw [hx1]; exact hf _ (by omega)
        have hdr : ((List.range n).map f).drop (4 * i) = [x0, x1] := by
          rw [two_of _ (hld.trans hm), U.getD_drop, U.getD_drop, Nat.add_zero, getD_range n f _ (by omega), getD_range n f _ (by omega), hx0, hx1]
        have HE : Hid (unf ((List.range n).map f) = if x1 % 16 = 0 then some (acc ++ [x0 * 4 + x1 / 16]) else none) := by
          unfold Hid
          rw [HU.out, hdr]
          by_cases h : x1 % 16 = 0 <;> simp [unf, h]
        obtain ⟨o, ho'⟩ : ∃ o, o = 4 * i := ⟨_, rfl⟩
        rw [← ho', show n - o = 2 by omega]
        obtain ⟨mc, hmc⟩ : ∃ m, m = c - o := ⟨_, rfl⟩
        rw [← hmc]
        have HOO : Hid (o + 2 ≤ n) := by unfold Hid; omega
        have F0 : Hid (f o = x0) := by unfold Hid; rw [ho', hx0]
        have F1 : Hid (f (o + 1) = x1) := by unfold Hid; rw [ho', hx1]
        have HLB := Lib.hid hlL
        obtain ⟨y0, hy0⟩ : ∃ y, y = x0 * 4 + x1 / 16 := ⟨_, rfl⟩
        have e0 : bits .or .u8 (IntKind.u8.wrap ((x0 : Int) * 4)) ((x1 : Int) / 16) = (y0 : Int) := by
          rw [show (x1 : Int) / 16 = ((x1 / 16 : Nat) : Int) by omega, pack4 _ _ (by omega)]; omega
        rw [← hy0] at HE
        clear hx0 hx1 hdr ho' hmc ho hy0 hm hld
        go_wp2_with fail
        refine wp_region_U 12 (fun u => Row u g 5 .u8 n f) (by kernel_rfl) ?_
        change wpAnyU _ _ _ _ _ _ 13 (Array.replicate 13 false) _ _
        obtain ⟨w2, hw2⟩ : ∃ w2, w2 = wr.drew := ⟨_, rfl⟩
        rw [← hw2]
        have HO2 : Hid (Owns w2 w.heap.size 5 (.slice p4 L c4) acc) := by unfold Hid; rw [hw2]; exact HO.out.below (Below.refl _ _).drew
        have HB2 : Hid (Below w.heap.size w w2) := by unfold Hid; rw [hw2]; exact HB.out.drew
        have HS2 : Hid (Row w2 g 5 .u8 n f) := by unfold Hid; rw [hw2]; exact HRW.out.drew
        clear hw2 HO HB HRW
        refine takeU 0 (v := ?_) rfl (by kernel_rfl) (by kernel_rfl) (fun _ _ _ h => h) rfl (fun u hu => ?_) HS2.out ?_
        rotate_left
        · skip; go_simp <;> with_reducible rfl
        simp only [Act.put, List.setIfInBounds_toArray, List.set_cons_zero, List.set_cons_succ]
        refine takeU 1 (v := ?_) rfl (by kernel_rfl) (by kernel_rfl) (fun _ _ _ h => h) rfl (fun u hu => ?_) HS2.out ?_
        rotate_left
        · skip; go_simp <;> with_reducible rfl
        simp only [Act.put, List.setIfInBounds_toArray, List.set_cons_zero, List.set_cons_succ]
        refine takeU 2 (v := ?_) rfl (by kernel_rfl) (by kernel_rfl) (fun _ _ _ h => h) rfl (fun u hu => ?_) HS2.out ?_
        rotate_left
        · have k0 := hu.cell (j := o) (by have := HOO.out; omega); have k1 := hu.cell (j := o + 1) (by have := HOO.out; omega); rw [F0.out] at k0; rw [F1.out] at k1; go_simp <;> with_reducible rfl
        simp only [Act.put, List.setIfInBounds_toArray, List.set_cons_zero, List.set_cons_succ]
        refine takeU 3 (v := ?_) rfl (by kernel_rfl) (by kernel_rfl) (fun _ _ _ h => h) rfl (fun u hu => ?_) HS2.out ?_
        rotate_left
        · skip; go_simp <;> with_reducible rfl
        simp only [Act.put, List.setIfInBounds_toArray, List.set_cons_zero, List.set_cons_succ]
        refine takeU 4 (v := ?_) rfl (by kernel_rfl) (by kernel_rfl) (fun _ _ _ h => h) rfl (fun u hu => ?_) HS2.out ?_
        rotate_left
        · skip; go_simp <;> with_reducible rfl
        simp only [Act.put, List.setIfInBounds_toArray, List.set_cons_zero, List.set_cons_succ]
        refine takeU 5 (v := ?_) rfl (by kernel_rfl) (by kernel_rfl) (fun _ _ _ h => h) rfl (fun u hu => ?_) HS2.out ?_
        rotate_left
        · skip; go_simp <;> with_reducible rfl
        simp only [Act.put, List.setIfInBounds_toArray, List.set_cons_zero, List.set_cons_succ]
        refine takeU 6 (v := ?_) rfl (by kernel_rfl) (by kernel_rfl) (fun _ _ _ h => h) rfl (fun u hu => ?_) HS2.out ?_
        rotate_left
        · have k0 := hu.cell (j := o) (by have := HOO.out; omega); have k1 := hu.cell (j := o + 1) (by have := HOO.out; omega); rw [F0.out] at k0; rw [F1.out] at k1; go_simp <;> with_reducible rfl
        simp only [Act.put, List.setIfInBounds_toArray, List.set_cons_zero, List.set_cons_succ]
        refine takeU 7 (v := ?_) rfl (by kernel_rfl) (by kernel_rfl) (fun _ _ _ h => h) rfl (fun u hu => ?_) HS2.out ?_
        rotate_left
        · skip; go_simp <;> with_reducible rfl
        simp only [Act.put, List.setIfInBounds_toArray, List.set_cons_zero, List.set_cons_succ]
        refine takeU 8 (v := ?_) rfl (by kernel_rfl) (by kernel_rfl) (fun _ _ _ h => h) rfl (fun u hu => ?_) HS2.out ?_
        rotate_left
        · skip; go_simp <;> with_reducible rfl
        simp only [Act.put, List.setIfInBounds_toArray, List.set_cons_zero, List.set_cons_succ]
        refine takeU 10 (v := ?_) rfl (by kernel_rfl) (by kernel_rfl) (fun _ _ _ h => h) rfl (fun u hu => ?_) HS2.out ?_
        rotate_left
        · skip; go_simp <;> with_reducible rfl
        simp only [Act.put, List.setIfInBounds_toArray, List.set_cons_zero, List.set_cons_succ]
        refine oneU 9 (by kernel_rfl) ?_
        refine someU 9 rfl (by kernel_rfl) ?_
        refine step_run rfl (.slice (some ⟨w2.heap.size, 0, none⟩) 1 1) (w2.alloc (.cells #[.int .u8 (y0 : Int)] 5)) (by go_simp) ?_
        have HS3 := Lib.hid (HS2.out.alloc (.cells #[.int .u8 (y0 : Int)] 5))
        have HO3 := Lib.hid (HO2.out.alloc (.cells #[.int .u8 (y0 : Int)] 5))
        have HB3 := Lib.hid (HB2.out.alloc HB2.out.size (.cells #[.int .u8 (y0 : Int)] 5))
        have HM3 : Hid (Owns (w2.alloc (.cells #[.int .u8 (y0 : Int)] 5)) w2.heap.size 5 (.slice (some ⟨w2.heap.size, 0, none⟩) 1 1) [y0]) := Owns.lit (l := [y0]) w2 _ (Nat.le_refl _) (by simp [nums]) (by show 1 ≤ maxLen; decide)
        have HC3 : Hid ((w2.alloc (.cells #[.int .u8 (y0 : Int)] 5)).cell? ⟨w2.heap.size, 0, none⟩ = some (.int .u8 (y0 : Int))) := by unfold Hid; simp
        refine ⟨HS3.out, ?_⟩
        simp only [Act.put, List.setIfInBounds_toArray, List.set_cons_zero, List.set_cons_succ]
        refine oneU 11 (by kernel_rfl) ?_
        refine someU 11 rfl (by kernel_rfl) ?_
        refine step_append_none rfl _ _ 36 rfl Tryd.underlying36 infoU8 rfl HM3.out rfl ?_
        refine ⟨HS3.out, ?_⟩
        simp only [Act.put, List.setIfInBounds_toArray, List.set_cons_zero, List.set_cons_succ]
        refine oneU 12 (by kernel_rfl) ?_
        refine endU (v := ?_) 12 rfl (by kernel_rfl) (by kernel_rfl) rfl ?_ ?_
        rotate_left
        · go_simp <;> with_reducible rfl
        simp only [Act.put, List.setIfInBounds_toArray, List.set_cons_zero, List.set_cons_succ]
        have k1 := HS3.out.cell (j := o + 1) (by have := HOO.out; omega)
        rw [F1.out] at k1
        have HSZ3 : Hid (w.heap.size ≤ (w2.alloc (.cells #[.int .u8 (y0 : Int)] 5)).heap.size) := by unfold Hid; rw [szA]; have := HB2.out.size; omega
        by_cases h16 : x1 % 16 = 0
        · have hw : IntKind.u8.wrap ((x1 : Int) * 16) = 0 := by rw [IntKind.wrap_u8]; omega
          rw [if_pos h16] at HE
          clear h16
          go_wp2_with (at_builtin; refine wpList_append_bytes rfl _ _ 36 rfl Tryd.underlying36 infoU8 rfl HO3.out ⟨w2.heap.size, 0, none⟩ 1 1 [y0] rfl rfl ?m1 ?m2 HSZ3.out ?_)
          case m1 => intro j hj; obtain rfl : j = 0 := (by omega); simp [Addr.add]
          case m2 => have := HL.out; have := HLB.out; omega
          intro v5 w5 ho5 hg5 hv5
          have HO5 := Lib.hid ho5
          have HB5 := Lib.hid (HB3.out.grown hg5 HSZ3.out (fun k hk => (HO3.out.block hk).1))
          clear ho5 hg5 hv5
          go_wp2_with fail
          go_ret2
          exact ⟨HB5.out, .inl ⟨_, _, HE.out, rfl, HO5.out⟩⟩
        · obtain ⟨r, hr⟩ : ∃ r, r = x1 % 16 * 16 := ⟨_, rfl⟩
          have hw : IntKind.u8.wrap ((x1 : Int) * 16) = (r : Int) := by rw [IntKind.wrap_u8]; omega
          have hr0 : ((r : Int) == 0) = false := by rw [beq_eq_false_iff_ne]; omega
          rw [if_neg h16] at HE
          clear h16 hr
          have HA : Hid (∀ w0, w0 = (w2.alloc (.cells #[.int .u8 (y0 : Int)] 5)) → Calls Tryd.prog 47 #[.int .i64 (L : Nat), .int .i64 11] w0 fun ev w' => (∃ s, ev = .returned (TErr s 11)) ∧ Below w0.heap.size w0 w') := fun w0 e => by
            subst e
            exact atW (L : Nat) 11 (by omega) (by have := HLB.out; omega) _ (HG.out.below HB3.out HG.out.lt)
          go_wp2_with (go_at_call 47; refine (HA.out _ rfl).mono ?_; rintro e w5 ⟨⟨p, rfl⟩, hb5⟩)
          go_ret2
          exact ⟨HB3.out.trans (hb5.mono HB3.out.size), .inr ⟨HE.out, p, rfl⟩⟩
      · obtain rfl : off = 4 * i := ho (by omega)
        obtain ⟨x0, hx0⟩ : ∃ x, x = f (4 * i) := ⟨_, rfl⟩
        obtain ⟨x1, hx1⟩ : ∃ x, x = f (4 * i + 1) := ⟨_, rfl⟩
        obtain ⟨x2, hx2⟩ : ∃ x, x = f (4 * i + 2) := ⟨_, rfl⟩
        have b0 : x0 < 64 := by rw [hx0]; exact hf _ (by omega)
        have b1 : x1 < 64 := by rw [hx1]; exact hf _ (by omega)
        have b2 : x2 < 64 := by rw [hx2]; exact hf _ (by omega)
        have hdr : ((List.range n).map f).drop (4 * i) = [x0, x1, x2] := by
          rw [three_of _ (hld.trans hm), U.getD_drop, U.getD_drop, U.getD_drop, Nat.add_zero, getD_range n f _ (by omega), getD_range n f _ (by omega), getD_range n f _ (by omega), hx0, hx1, hx2]
        have HE : Hid (unf ((List.range n).map f) = if x2 % 4 = 0 then some (acc ++ [x0 * 4 + x1 / 16, x1 % 16 * 16 + x2 / 4]) else none) := by
          unfold Hid
          rw [HU.out, hdr]
          by_cases h : x2 % 4 = 0 <;> simp [unf, h]
        obtain ⟨o, ho'⟩ : ∃ o, o = 4 * i := ⟨_, rfl⟩
        rw [← ho', show n - o = 3 by omega]
        obtain ⟨mc, hmc⟩ : ∃ m, m = c - o := ⟨_, rfl⟩
        rw [← hmc]
        have HOO : Hid (o + 3 ≤ n) := by unfold Hid; omega
        have F0 : Hid (f o = x0) := by unfold Hid; rw [ho', hx0]
        have F1 : Hid (f (o + 1) = x1) := by unfold Hid; rw [ho', hx1]
        have F2 : Hid (f (o + 2) = x2) := by unfold Hid; rw [ho', hx2]
        have HLB := Lib.hid hlL
        obtain ⟨y0, hy0⟩ : ∃ y, y = x0 * 4 + x1 / 16 := ⟨_, rfl⟩
        obtain ⟨y1, hy1⟩ : ∃ y, y = x1 % 16 * 16 + x2 / 4 := ⟨_, rfl⟩
        have e0 : bits .or .u8 (IntKind.u8.wrap ((x0 : Int) * 4)) ((x1 : Int) / 16) = (y0 : Int) := by
          rw [show (x1 : Int) / 16 = ((x1 / 16 : Nat) : Int) by omega, pack4 _ _ (by omega)]; omega
        have e1 : bits .or .u8 (IntKind.u8.wrap ((x1 : Int) * 16)) ((x2 : Int) / 4) = (y1 : Int) := by
          rw [show (x2 : Int) / 4 = ((x2 / 4 : Nat) : Int) by omega, pack16 _ _ (by omega)]; omega
        rw [← hy0, ← hy1] at HE
        clear hx0 hx1 hx2 hdr ho' hmc ho hy0 hy1 hm hld
        go_wp2_with fail
        refine wp_region_U 12 (fun u => Row u g 5 .u8 n f) (by kernel_rfl) ?_
        change wpAnyU _ _ _ _ _ _ 13 (Array.replicate 13 false) _ _
        obtain ⟨w2, hw2⟩ : ∃ w2, w2 = wr.drew := ⟨_, rfl⟩
        rw [← hw2]
        have HO2 : Hid (Owns w2 w.heap.size 5 (.slice p4 L c4) acc) := by unfold Hid; rw [hw2]; exact HO.out.below (Below.refl _ _).drew
        have HB2 : Hid (Below w.heap.size w w2) := by unfold Hid; rw [hw2]; exact HB.out.drew
        have HS2 : Hid (Row w2 g 5 .u8 n f) := by unfold Hid; rw [hw2]; exact HRW.out.drew
        clear hw2 HO HB HRW
        refine takeU 0 (v := ?_) rfl (by kernel_rfl) (by kernel_rfl) (fun _ _ _ h => h) rfl (fun u hu => ?_) HS2.out ?_
        rotate_left
        · skip; go_simp <;> with_reducible rfl
        simp only [Act.put, List.setIfInBounds_toArray, List.set_cons_zero, List.set_cons_succ]
        refine takeU 1 (v := ?_) rfl (by kernel_rfl) (by kernel_rfl) (fun _ _ _ h => h) rfl (fun u hu => ?_) HS2.out ?_
        rotate_left
        · skip; go_simp <;> with_reducible rfl
        simp only [Act.put, List.setIfInBounds_toArray, List.set_cons_zero, List.set_cons_succ]
        refine takeU 2 (v := ?_) rfl (by kernel_rfl) (by kernel_rfl) (fun _ _ _ h => h) rfl (fun u hu => ?_) HS2.out ?_
        rotate_left
        · skip; go_simp <;> with_reducible rfl
        simp only [Act.put, List.setIfInBounds_toArray, List.set_cons_zero, List.set_cons_succ]
        refine takeU 3 (v := ?_) rfl (by kernel_rfl) (by kernel_rfl) (fun _ _ _ h => h) rfl (fun u hu => ?_) HS2.out ?_
        rotate_left
        · have k0 := hu.cell (j := o) (by have := HOO.out; omega); have k1 := hu.cell (j := o + 1) (by have := HOO.out; omega); have k2 := hu.cell (j := o + 2) (by have := HOO.out; omega); rw [F0.out] at k0; rw [F1.out] at k1; rw [F2.out] at k2; go_simp <;> with_reducible rfl
        simp only [Act.put, List.setIfInBounds_toArray, List.set_cons_zero, List.set_cons_succ]
        refine takeU 4 (v := ?_) rfl (by kernel_rfl) (by kernel_rfl) (fun _ _ _ h => h) rfl (fun u hu => ?_) HS2.out ?_
        rotate_left
        · skip; go_simp <;> with_reducible rfl
        simp only [Act.put, List.setIfInBounds_toArray, List.set_cons_zero, List.set_cons_succ]
        refine takeU 5 (v := ?_) rfl (by kernel_rfl) (by kernel_rfl) (fun _ _ _ h => h) rfl (fun u hu => ?_) HS2.out ?_
        rotate_left
        · skip; go_simp <;> with_reducible rfl
        simp only [Act.put, List.setIfInBounds_toArray, List.set_cons_zero, List.set_cons_succ]
        refine takeU 6 (v := ?_) rfl (by kernel_rfl) (by kernel_rfl) (fun _ _ _ h => h) rfl (fun u hu => ?_) HS2.out ?_
        rotate_left
        · skip; go_simp <;> with_reducible rfl
        simp only [Act.put, List.setIfInBounds_toArray, List.set_cons_zero, List.set_cons_succ]
        refine takeU 7 (v := ?_) rfl (by kernel_rfl) (by kernel_rfl) (fun _ _ _ h => h) rfl (fun u hu => ?_) HS2.out ?_
        rotate_left
        · have k0 := hu.cell (j := o) (by have := HOO.out; omega); have k1 := hu.cell (j := o + 1) (by have := HOO.out; omega); have k2 := hu.cell (j := o + 2) (by have := HOO.out; omega); rw [F0.out] at k0; rw [F1.out] at k1; rw [F2.out] at k2; go_simp <;> with_reducible rfl
        simp only [Act.put, List.setIfInBounds_toArray, List.set_cons_zero, List.set_cons_succ]
        refine takeU 8 (v := ?_) rfl (by kernel_rfl) (by kernel_rfl) (fun _ _ _ h => h) rfl (fun u hu => ?_) HS2.out ?_
        rotate_left
        · skip; go_simp <;> with_reducible rfl
        simp only [Act.put, List.setIfInBounds_toArray, List.set_cons_zero, List.set_cons_succ]
        refine takeU 9 (v := ?_) rfl (by kernel_rfl) (by kernel_rfl) (fun _ _ _ h => h) rfl (fun u hu => ?_) HS2.out ?_
        rotate_left
        · skip; go_simp <;> with_reducible rfl
        simp only [Act.put, List.setIfInBounds_toArray, List.set_cons_zero, List.set_cons_succ]
        refine oneU 10 (by kernel_rfl) ?_
        refine someU 10 rfl (by kernel_rfl) ?_
        refine step_run rfl (.slice (some ⟨w2.heap.size, 0, none⟩) 1 1) (w2.alloc (.cells #[.int .u8 (y1 : Int)] 5)) (by go_simp) ?_
        obtain ⟨w3, hw3⟩ : ∃ w3, w3 = w2.alloc (.cells #[.int .u8 (y1 : Int)] 5) := ⟨_, rfl⟩
        have HS3 : Hid (Row w3 g 5 .u8 n f) := by unfold Hid; rw [hw3]; exact HS2.out.alloc _
        have HO3 : Hid (Owns w3 w.heap.size 5 (.slice p4 L c4) acc) := by unfold Hid; rw [hw3]; exact HO2.out.alloc _
        have HB3 : Hid (Below w.heap.size w w3) := by unfold Hid; rw [hw3]; exact HB2.out.alloc HB2.out.size _
        have HC3 : Hid (∀ j, j < 1 → w3.cell? ((⟨w2.heap.size, 0, none⟩ : Addr).add j) = some (.int .u8 ([y1].getD j 0 : Nat))) := by
          unfold Hid; rw [hw3]; intro j hj; obtain rfl : j = 0 := (by omega); simp [Addr.add]
        rw [← hw3]
        clear hw3
        refine ⟨HS3.out, ?_⟩
        simp only [Act.put, List.setIfInBounds_toArray, List.set_cons_zero, List.set_cons_succ]
        refine oneU 11 (by kernel_rfl) ?_
        refine someU 11 rfl (by kernel_rfl) ?_
        refine step_append_b rfl _ _ 36 rfl Tryd.underlying36 infoU8 rfl (Owns.nil w3 w3.heap.size 5) ⟨w2.heap.size, 0, none⟩ 1 1 [y1] rfl rfl HC3.out (by simp) (Nat.le_refl _) ?_
        intro v4 w4 hm4 hg4
        have HM4 : Hid (Owns w4 w3.heap.size 5 v4 [y1]) := hm4
        have hg5 : w3.grownBy w4 none := hg4
        have HB34 : Hid (Below w3.heap.size w3 w4) := ⟨hg5.os, hg5.tape, hg5.output, hg5.size, fun k hk => hg5.block k hk (by simp)⟩
        have HO4 := Lib.hid (HO3.out.below HB34.out)
        have HB4 := Lib.hid (HB3.out.trans (HB34.out.mono HB3.out.size))
        have HS4 := Lib.hid (HS3.out.below HB34.out HS3.out.lt)
        have hv4 := (HM4.out.form (by simp))
        obtain ⟨g4, c4', hv4, hg40, hc4, hcell4⟩ := hv4
        subst hv4
        clear hm4 hg4 hg5 HO3 HS3 HC3 HO2 HB2 HS2 HB34
        refine ⟨HS4.out, ?_⟩
        simp only [Act.put, List.setIfInBounds_toArray, List.set_cons_zero, List.set_cons_succ]
        refine oneU 12 (by kernel_rfl) ?_
        refine endU (v := ?_) 12 rfl (by kernel_rfl) (by kernel_rfl) rfl ?_ ?_
        rotate_left
        · go_simp <;> with_reducible rfl
        simp only [Act.put, List.setIfInBounds_toArray, List.set_cons_zero, List.set_cons_succ]
        have k2 := HS4.out.cell (j := o + 2) (by have := HOO.out; omega)
        rw [F2.out] at k2
        go_wp2_with fail
        have HM4b := Lib.hid hcell4
        clear hcell4 k2
        refine wp_region_U 12 (fun u => Row u g 5 .u8 n f) (by kernel_rfl) ?_
        change wpAnyU _ _ _ _ _ _ 13 (Array.replicate 13 false) _ _
        obtain ⟨w5, hw5⟩ : ∃ w5, w5 = w4.drew := ⟨_, rfl⟩
        rw [← hw5]
        have HO5 : Hid (Owns w5 w.heap.size 5 (.slice p4 L c4) acc) := by unfold Hid; rw [hw5]; exact HO4.out.below (Below.refl _ _).drew
        have HB5 : Hid (Below w.heap.size w w5) := by unfold Hid; rw [hw5]; exact HB4.out.drew
        have HS5 : Hid (Row w5 g 5 .u8 n f) := by unfold Hid; rw [hw5]; exact HS4.out.drew
        have HC5 : Hid (∀ j, j < [y1].length → w5.cell? ⟨g4, j, none⟩ = some (.int .u8 ([y1].getD j 0 : Nat))) := by unfold Hid; rw [hw5]; exact HM4b.out
        clear hw5 HO4 HB4 HS4 HM4b
        refine takeU 0 (v := ?_) rfl (by kernel_rfl) (by kernel_rfl) (fun _ _ _ h => h) rfl (fun u hu => ?_) HS5.out ?_
        rotate_left
        · skip; go_simp <;> with_reducible rfl
        simp only [Act.put, List.setIfInBounds_toArray, List.set_cons_zero, List.set_cons_succ]
        refine takeU 1 (v := ?_) rfl (by kernel_rfl) (by kernel_rfl) (fun _ _ _ h => h) rfl (fun u hu => ?_) HS5.out ?_
        rotate_left
        · skip; go_simp <;> with_reducible rfl
        simp only [Act.put, List.setIfInBounds_toArray, List.set_cons_zero, List.set_cons_succ]
        refine takeU 2 (v := ?_) rfl (by kernel_rfl) (by kernel_rfl) (fun _ _ _ h => h) rfl (fun u hu => ?_) HS5.out ?_
        rotate_left
        · have k0 := hu.cell (j := o) (by have := HOO.out; omega); have k1 := hu.cell (j := o + 1) (by have := HOO.out; omega); rw [F0.out] at k0; rw [F1.out] at k1; go_simp <;> with_reducible rfl
        simp only [Act.put, List.setIfInBounds_toArray, List.set_cons_zero, List.set_cons_succ]
        refine takeU 3 (v := ?_) rfl (by kernel_rfl) (by kernel_rfl) (fun _ _ _ h => h) rfl (fun u hu => ?_) HS5.out ?_
        rotate_left
        · skip; go_simp <;> with_reducible rfl
        simp only [Act.put, List.setIfInBounds_toArray, List.set_cons_zero, List.set_cons_succ]
        refine takeU 4 (v := ?_) rfl (by kernel_rfl) (by kernel_rfl) (fun _ _ _ h => h) rfl (fun u hu => ?_) HS5.out ?_
        rotate_left
        · skip; go_simp <;> with_reducible rfl
        simp only [Act.put, List.setIfInBounds_toArray, List.set_cons_zero, List.set_cons_succ]
        refine takeU 5 (v := ?_) rfl (by kernel_rfl) (by kernel_rfl) (fun _ _ _ h => h) rfl (fun u hu => ?_) HS5.out ?_
        rotate_left
        · skip; go_simp <;> with_reducible rfl
        simp only [Act.put, List.setIfInBounds_toArray, List.set_cons_zero, List.set_cons_succ]
        refine takeU 6 (v := ?_) rfl (by kernel_rfl) (by kernel_rfl) (fun _ _ _ h => h) rfl (fun u hu => ?_) HS5.out ?_
        rotate_left
        · have k0 := hu.cell (j := o) (by have := HOO.out; omega); have k1 := hu.cell (j := o + 1) (by have := HOO.out; omega); rw [F0.out] at k0; rw [F1.out] at k1; go_simp <;> with_reducible rfl
        simp only [Act.put, List.setIfInBounds_toArray, List.set_cons_zero, List.set_cons_succ]
        refine takeU 7 (v := ?_) rfl (by kernel_rfl) (by kernel_rfl) (fun _ _ _ h => h) rfl (fun u hu => ?_) HS5.out ?_
        rotate_left
        · skip; go_simp <;> with_reducible rfl
        simp only [Act.put, List.setIfInBounds_toArray, List.set_cons_zero, List.set_cons_succ]
        refine takeU 8 (v := ?_) rfl (by kernel_rfl) (by kernel_rfl) (fun _ _ _ h => h) rfl (fun u hu => ?_) HS5.out ?_
        rotate_left
        · skip; go_simp <;> with_reducible rfl
        simp only [Act.put, List.setIfInBounds_toArray, List.set_cons_zero, List.set_cons_succ]
        refine takeU 10 (v := ?_) rfl (by kernel_rfl) (by kernel_rfl) (fun _ _ _ h => h) rfl (fun u hu => ?_) HS5.out ?_
        rotate_left
        · skip; go_simp <;> with_reducible rfl
        simp only [Act.put, List.setIfInBounds_toArray, List.set_cons_zero, List.set_cons_succ]
        refine oneU 9 (by kernel_rfl) ?_
        refine someU 9 rfl (by kernel_rfl) ?_
        refine step_run rfl (.slice (some ⟨w5.heap.size, 0, none⟩) 1 1) (w5.alloc (.cells #[.int .u8 (y0 : Int)] 5)) (by go_simp) ?_
        obtain ⟨w6, hw6⟩ : ∃ w6, w6 = w5.alloc (.cells #[.int .u8 (y0 : Int)] 5) := ⟨_, rfl⟩
        have HS6 : Hid (Row w6 g 5 .u8 n f) := by unfold Hid; rw [hw6]; exact HS5.out.alloc _
        have HO6 : Hid (Owns w6 w.heap.size 5 (.slice p4 L c4) acc) := by unfold Hid; rw [hw6]; exact HO5.out.alloc _
        have HB6 : Hid (Below w.heap.size w w6) := by unfold Hid; rw [hw6]; exact HB5.out.alloc HB5.out.size _
        have HM6 : Hid (Owns w6 w5.heap.size 5 (.slice (some ⟨w5.heap.size, 0, none⟩) 1 1) [y0]) := by unfold Hid; rw [hw6]; exact Owns.lit (l := [y0]) w5 _ (Nat.le_refl _) (by simp [nums]) (by show 1 ≤ maxLen; decide)
        have HC6 : Hid (∀ j, j < 1 → w6.cell? ((⟨g4, 0, none⟩ : Addr).add j) = some (.int .u8 ([y1].getD j 0 : Nat))) := by
          intro j hj
          obtain rfl : j = 0 := by omega
          have hc := HC5.out 0 (by simp)
          rw [hw6, show (⟨g4, 0, none⟩ : Addr).add 0 = ⟨g4, 0, none⟩ by simp [Addr.add], World.cell?_alloc_lt _ _ _ (block_lt_of_cell hc)]
          exact hc
        have HZ6 : Hid (w5.heap.size ≤ w6.heap.size) := by unfold Hid; rw [hw6, szA]; omega
        rw [← hw6]
        clear hw6
        refine ⟨HS6.out, ?_⟩
        simp only [Act.put, List.setIfInBounds_toArray, List.set_cons_zero, List.set_cons_succ]
        refine oneU 11 (by kernel_rfl) ?_
        refine someU 11 rfl (by kernel_rfl) ?_
        refine step_append_b rfl _ _ 36 rfl Tryd.underlying36 infoU8 rfl HM6.out ⟨g4, 0, none⟩ 1 c4' [y1] rfl rfl HC6.out (by simp) HZ6.out ?_
        intro v7 w7 hm7 hg7
        have hg7b : w6.grownBy w7 (some w5.heap.size) := hg7
        have HM7 : Hid (Owns w7 w5.heap.size 5 v7 [y0, y1]) := hm7
        have HB7 := Lib.hid (HB6.out.grown hg7b HB6.out.size (fun k hk => by injection hk with hk; have := HB5.out.size; omega))
        have HO7 : Hid (Owns w7 w.heap.size 5 (.slice p4 L c4) acc) := HO6.out.grown hg7b (by rcases h : (Value.slice p4 L c4).ownBlock with _ | k; exact .inl rfl; exact .inr (fun e => by have h1 := (HO5.out.block h).2; injection e with e; omega))
        have HS7 := Lib.hid (HS6.out.grown hg7b (fun e => by injection e with e; have := HS5.out.lt; omega))
        obtain ⟨g7, c7, hv7, hg70, hc7, hcell7⟩ := (HM7.out.form (by simp))
        replace hv7 : v7 = .slice (some ⟨g7, 0, none⟩) 2 c7 := hv7
        subst hv7
        clear hm7 hg7 hg7b
        refine ⟨HS7.out, ?_⟩
        simp only [Act.put, List.setIfInBounds_toArray, List.set_cons_zero, List.set_cons_succ]
        refine oneU 12 (by kernel_rfl) ?_
        refine endU (v := ?_) 12 rfl (by kernel_rfl) (by kernel_rfl) rfl ?_ ?_
        rotate_left
        · go_simp <;> with_reducible rfl
        simp only [Act.put, List.setIfInBounds_toArray, List.set_cons_zero, List.set_cons_succ]
        have k2 := HS7.out.cell (j := o + 2) (by have := HOO.out; omega)
        rw [F2.out] at k2
        have HC7 := Lib.hid hcell7
        clear hcell7
        by_cases h4' : x2 % 4 = 0
        · have hw : (x2 : Int) * 64 % 256 = 0 := by omega
          rw [if_pos h4'] at HE
          clear h4'
          go_wp2_with (at_builtin; refine wpList_append_bytes rfl _ _ 36 rfl Tryd.underlying36 infoU8 rfl HO7.out ⟨g7, 0, none⟩ 2 c7 [y0, y1] rfl rfl ?n1 ?n2 HB7.out.size ?_)
          case n1 => intro j hj; rw [show (⟨g7, 0, none⟩ : Addr).add j = ⟨g7, j, none⟩ by unfold Addr.add; simp; omega]; exact HC7.out j hj
          case n2 => have := HL.out; have := HLB.out; omega
          intro v8 w8 ho8 hg8 hv8
          have HO8 := Lib.hid ho8
          have HB8 := Lib.hid (HB7.out.grown hg8 HB7.out.size (fun k hk => (HO7.out.block hk).1))
          clear ho8 hg8 hv8
          go_wp2_with fail
          go_ret2
          exact ⟨HB8.out, .inl ⟨_, _, HE.out, rfl, HO8.out⟩⟩
        · obtain ⟨r, hr⟩ : ∃ r, r = x2 % 4 * 64 := ⟨_, rfl⟩
          have hw : (x2 : Int) * 64 % 256 = (r : Int) := by omega
          have hr0 : ((r : Int) == 0) = false := by rw [beq_eq_false_iff_ne]; omega
          rw [if_neg h4'] at HE
          clear h4' hr
          have HA : Hid (∀ w0, w0 = w7 → Calls Tryd.prog 47 #[.int .i64 (L : Nat), .int .i64 11] w0 fun ev w' => (∃ s, ev = .returned (TErr s 11)) ∧ Below w0.heap.size w0 w') := fun w0 e => by
            subst e
            exact atW (L : Nat) 11 (by omega) (by have := HLB.out; omega) _ (HG.out.below HB7.out HG.out.lt)
          go_wp2_with (go_at_call 47; refine (HA.out _ rfl).mono ?_; rintro e w8 ⟨⟨p, rfl⟩, hb8⟩)
          go_ret2
          exact ⟨HB7.out.trans (hb8.mono HB7.out.size), .inr ⟨HE.out, p, rfl⟩⟩
end Go.Proofs.YthdoeaiehajofaaDoor
