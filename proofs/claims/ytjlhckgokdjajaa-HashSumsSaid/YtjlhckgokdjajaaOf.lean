/- The walk of Of: a kind of the reference. -/
import Derived.Test.YtjlhckgokdjajaaRBytes
import Derived.Deep.RegionHeld3
import Derived.Shelf.Abstract
import Derived.Deep.RegionLaw
import Derived.Deep.DeepCutAuto
import Derived.Deep.AppendLies
import Derived.StillTactics
namespace Go.Proofs.Ytjlhckgokdjajaa
open Go.RowKit
/-- The kinds' cells. -/
def rk32 (vK vF : Value) : Array Value := #[.int .i64 32, .int .i64 64, .int .i64 32, .int .i64 7, .int .i64 18, .int .i64 3, .int .i64 17, .int .i64 19, .int .i64 10, .int .i64 6, .int .i64 11, .int .i64 25, .int .i64 2, .int .i64 13, .int .i64 22, vK, vF]
def rk64 (vK vF : Value) : Array Value := #[.int .i64 64, .int .i64 80, .int .i64 48, .int .i64 1, .int .i64 8, .int .i64 7, .int .i64 19, .int .i64 61, .int .i64 6, .int .i64 14, .int .i64 18, .int .i64 41, .int .i64 28, .int .i64 34, .int .i64 39, vK, vF]
def rkz : Array Value := #[.int .i64 0, .int .i64 0, .int .i64 0, .int .i64 0, .int .i64 0, .int .i64 0, .int .i64 0, .int .i64 0, .int .i64 0, .int .i64 0, .int .i64 0, .int .i64 0, .int .i64 0, .int .i64 0, .int .i64 0, .slice none 0 0, .slice none 0 0]
def nilV : Value := .slice none 0 0
def sl (g n c : Nat) : Value := .slice (some ⟨g, 0, none⟩) n c
theorem one_rk32 (vK vF : Value) (h1 : vK.oneCell' = true) (h2 : vF.oneCell' = true) : ∀ v ∈ (rk32 vK vF).toList, v.oneCell' = true := by
  intro v hv
  simp only [rk32, List.mem_cons, List.not_mem_nil, or_false] at hv
  rcases hv with rfl | rfl | rfl | rfl | rfl | rfl | rfl | rfl | rfl | rfl | rfl | rfl | rfl | rfl | rfl | rfl | rfl <;> first | rfl | assumption
theorem one_rk64 (vK vF : Value) (h1 : vK.oneCell' = true) (h2 : vF.oneCell' = true) : ∀ v ∈ (rk64 vK vF).toList, v.oneCell' = true := by
  intro v hv
  simp only [rk64, List.mem_cons, List.not_mem_nil, or_false] at hv
  rcases hv with rfl | rfl | rfl | rfl | rfl | rfl | rfl | rfl | rfl | rfl | rfl | rfl | rfl | rfl | rfl | rfl | rfl <;> first | rfl | assumption
/-- A call of a Go function, as one step of a region that draws. -/
theorem step_calls {P : Program} {ops : Array Oper} {o : Oper} {a : Act} {w : World} {K : Act → World → Prop} {Q : Exit → Act → World → Prop} {E : Prop} (hgd : o.guard = none) (f : FuncId) (xs : Array Operand) (ats : Array TypeId)
    (ho : o.op = .call { callee := .value (.func f), args := xs, argTypes := ats }) (args : Array Value) (hargs : xs.map a.eval = args) (hent : ∀ args w, (callFunc f args).run P w = .ok (.enter f args) w) (v : Value) (R : World → Prop)
    (hc : Calls P f args w fun e w' => e = .returned v ∧ R w') (h : ∀ w', R w' → K (a.put o.dst v) w') :
    if Region.wanted o (yielded ops a.tmps) = true then Oper.wp P o a w K Q else E := by
  rw [if_pos (by simp [Region.wanted, hgd])]
  have hrun : (execOp a.eval o).run P w = .ok (.enter f args) w := by
    have e : execOp a.eval o = callFunc f (#[] ++ xs.map a.eval ++ #[]) := by
      obtain ⟨dst, op, ty, pos, after, guard⟩ := o
      simp only at ho
      subst ho
      rfl
    rw [e, hargs]
    simpa using hent args w
  unfold Oper.wp
  rw [hrun]
  refine hc.mono ?_
  rintro e w' ⟨rfl, hr⟩
  exact h w' hr
/-- What stands in memory while a kind is made: the result's cells, the kind's own, the primes. -/
structure OfS (n0 base gP : Nat) (w wt : World) (cs : Array Value) : Prop where
  z : wt.heap[n0]? = some (.cells rkz 51 (0, 0))
  k : wt.heap[n0 + 1]? = some (.cells cs 51 (0, 0))
  p : Cells64 wt gP 80 (fun j => Sha.primes80.getD j 0)
  b : Below n0 w wt
  s : base ≤ wt.heap.size
  hp : gP < base
  hb : n0 + 2 ≤ base
section
variable {n0 base base' gP : Nat} {w wt wt' : World} {cs : Array Value}
theorem OfS.below (h : OfS n0 base gP w wt cs) (hb : Below wt.heap.size wt wt') : OfS n0 base gP w wt' cs := by
  have h1 := h.s
  have h2 := h.hb
  exact ⟨(hb.block _ (by omega)).trans h.z, (hb.block _ (by omega)).trans h.k, h.p.below hb, h.b.trans (hb.mono (by omega)), Nat.le_trans h1 hb.size, h.hp, h2⟩
theorem OfS.grown (h : OfS n0 base gP w wt cs) {r : Option Nat} (hg : wt.grownBy wt' r) (hr : ∀ k, r = some k → base ≤ k) : OfS n0 base gP w wt' cs := by
  have h1 := h.s
  have h2 := h.hb
  have h3 := h.hp
  have hbel : Below base wt wt' := (Below.refl _ _).grown hg h1 hr
  exact ⟨(hbel.block _ (by omega)).trans h.z, (hbel.block _ (by omega)).trans h.k, fun j hj => (hbel.cell (p := ⟨gP, j, none⟩) h3).trans (h.p j hj), h.b.trans (hbel.mono (by omega)), Nat.le_trans h1 hg.size, h3, h2⟩
theorem OfS.drew (h : OfS n0 base gP w wt cs) : OfS n0 base gP w wt.drew cs := ⟨h.z, h.k, h.p, h.b.drew, h.s, h.hp, h.hb⟩
theorem OfS.alloc (h : OfS n0 base gP w wt cs) (o : Obj) : OfS n0 base gP w (wt.alloc o) cs := h.below ((Below.refl _ _).alloc (Nat.le_refl _) o)
theorem OfS.cell (h : OfS n0 base gP w wt cs) (j : Nat) (v : Value) (hv : cs[j]? = some v) : wt.cell? ⟨n0 + 1, j, none⟩ = some v := (cell_of_row wt _ j cs 51 (0, 0) h.k).trans hv
theorem OfS.free (h : OfS n0 base gP w wt cs) (j : Nat) : wt.frozen? ⟨n0 + 1, j, none⟩ = false := frozen_of_row wt _ j cs 51 h.k
theorem OfS.set (h : OfS n0 base gP w wt cs) (hne : gP ≠ n0 + 1) (j : Nat) (v : Value) : OfS n0 base gP w (wt.setCell ⟨n0 + 1, j, none⟩ v) (cs.setIfInBounds j v) := by
  refine ⟨?_, heap_setCell_same wt _ j cs 51 _ h.k, fun i hi => ?_, h.b.setCell (by show n0 ≤ n0 + 1; omega) v, by simp [World.setCell]; exact h.s, h.hp, h.hb⟩
  · rw [heap_setCell_other wt _ n0 v (by show n0 ≠ n0 + 1; omega)]; exact h.z
  · exact (World.cell?_setCell_other _ _ _ _ (by intro e; injection e with e; exact hne e.symm)).trans (h.p i hi)
end
theorem grownBy_setCell (w : World) (b j : Nat) (v : Value) : w.grownBy (w.setCell ⟨b, j, none⟩ v) (some b) :=
  ⟨rfl, rfl, rfl, by simp [World.setCell], fun k _ hk => heap_setCell_other w _ k v (fun e => hk (by rw [e]))⟩
theorem of_step {n0 base gP : Nat} {w w4 : World} {cs : Array Value} {gg i cap r : Nat} {L L' : List Nat} (j : Nat) (v : Value) (hof : OfS n0 base gP w w4 cs)
    (hown : w4.ownsRow base 58 1 (.slice (some ⟨gg, 0, none⟩) (i + 1) cap) (i + 1) (nums .u64 L ++ [.int .u64 (r : Nat)])) (hlen : L.length = i) (hL : L' = L ++ [r]) :
    Owns64 (w4.setCell ⟨n0 + 1, j, none⟩ v) base (.slice (some ⟨gg, 0, none⟩) (i + 1) cap) L' := by
  have h1 : Owns64 w4 base (.slice (some ⟨gg, 0, none⟩) (i + 1) cap) L' := by
    unfold Owns64
    rw [hL, List.length_append, hlen]
    have : nums .u64 (L ++ [r]) = nums .u64 L ++ [.int .u64 (r : Nat)] := by simp [nums]
    rw [this]; exact hown
  refine h1.grown (grownBy_setCell w4 _ j v) (.inr (fun e => ?_))
  have h2 := (h1.block e).1
  have := hof.hb
  omega
theorem OfS.rebase {n0 base gP : Nat} {w wt : World} {cs : Array Value} (h : OfS n0 base gP w wt cs) : OfS n0 wt.heap.size gP w wt cs := ⟨h.z, h.k, h.p, h.b, Nat.le_refl _, Nat.lt_of_lt_of_le h.hp h.s, Nat.le_trans h.hb h.s⟩
theorem Cells64.set {w : World} {B N : Nat} {f : Nat → Nat} (h : Cells64 w B N f) (g j : Nat) (v : Value) (hne : B ≠ g) : Cells64 (w.setCell ⟨g, j, none⟩ v) B N f := fun i hi =>
  (World.cell?_setCell_other _ _ _ _ (by intro e; injection e with e; exact hne e.symm)).trans (h i hi)
theorem Cells64.grown {w w' : World} {B N : Nat} {f : Nat → Nat} (h : Cells64 w B N f) {r : Option Nat} (hg : w.grownBy w' r) (hr : r ≠ some B) : Cells64 w' B N f := fun i hi =>
  (hg.cell_far ⟨B, i, none⟩ (block_lt_of_cell (h i hi)) (fun e => hr e.symm)).trans (h i hi)
set_option maxRecDepth 100000 in
set_option maxHeartbeats 800000 in
theorem of0 (w : World) :
    Calls Try.prog 24 #[.int .i64 0] w fun e w' => ∃ gK cK gF cF, e = .returned (.tuple #[.agg (rk32 (sl gK 64 cK) (sl gF 8 cF)), .bool true]) ∧
      Cells64 w' gK 64 (fun j => Sha.keys32.getD j 0) ∧ Cells64 w' gF 8 (fun j => Sha.k32.init.getD j 0) ∧ Below w.heap.size w w' := by
  go_enter Try.func24, Try.ntmps24
  go_wp2_with (first
    | (with_reducible refine wpList_run (o := ⟨some 2, _, _, _, _, _⟩) rfl (.pointer (some ⟨w.heap.size, 0, none⟩)) (w.alloc (.cells rkz 51)) (by kernel_rfl) ?_)
    | (with_reducible refine wpList_pure (o := ⟨some 13, _, _, _, _, _⟩) rfl (.agg (rk32 nilV nilV)) (fun _ => by kernel_rfl) ?_)
    | (refine wpList_store_blk rfl 51 _ _ rfl (w.heap.size + 1) 0 (rk32 nilV nilV) rfl rfl rkz 51 (heap_at (by simp)) (by decide) (by kernel_rfl) (one_rk32 _ _ rfl rfl) ?_; intro w1 hh1 hg1 hs1))
  have hz : w1.heap[w.heap.size]? = some (.cells rkz 51 (0, 0)) := by
    rw [hg1.block w.heap.size (by simp; omega) (by intro e; injection e with e; omega)]
    exact (heap_lt (by simp)).trans (heap_at rfl)
  have hk : w1.heap[w.heap.size + 1]? = some (.cells (rk32 nilV nilV) 51 (0, 0)) := by rw [hh1]; rfl
  have hb : Below w.heap.size w w1 := (((Below.refl _ _).alloc (Nat.le_refl _) _).alloc (by simp) _).trans (grown_below hg1 (by omega) (by simp; omega))
  have hs : w.heap.size + 2 = w1.heap.size := by rw [hs1]; simp
  clear hh1 hg1 hs1
  obtain ⟨n0, hn0⟩ : ∃ n, n = w.heap.size := ⟨_, rfl⟩
  rw [← hn0] at hz hk hb hs ⊢
  have HN0 := Lib.hid hn0
  have HZ := Lib.hid hz
  have HKB := Lib.hid hk
  have HB := Lib.hid hb
  have hs2 : n0 + 2 ≤ w1.heap.size := by omega
  clear hn0 hz hk hb hs
  refine (primesW w1).mono ?_
  rintro e w2 ⟨gP, cP, rfl, hcP, hb2, hgP⟩
  have hgl : gP < w2.heap.size := block_lt_of_cell (hcP 0 (by decide))
  have hof : OfS n0 w2.heap.size gP w w2 (rk32 nilV nilV) := ⟨(hb2.block _ (by omega)).trans HZ.out, (hb2.block _ (by omega)).trans HKB.out, hcP, HB.out.trans (hb2.mono (by omega)), Nat.le_refl _, hgl, by have := hb2.size; omega⟩
  have hne : gP ≠ n0 + 1 := by omega
  obtain ⟨base, hbase⟩ : ∃ b, b = w2.heap.size := ⟨_, rfl⟩
  rw [← hbase] at hof
  have HOF := Lib.hid hof
  have HNE := Lib.hid hne
  clear hcP hb2 hgP hgl hof hne hbase hs2 HZ HKB HB
  go_wp2_with fail
  go_loopw [7] (fun vi wr => ∃ (i : Nat) (vK : Value), i ≤ 64 ∧ vi = .int .i64 (i : Nat) ∧ OfS n0 base gP w wr (rk32 vK nilV) ∧ Owns64 wr base vK ((Sha.primes80.take i).map (fun p => Sha.root p 3 32))) (fun vi _ => (64 - intOf vi).toNat)
  case atStart => exact ⟨0, nilV, by omega, rfl, HOF.out, World.ownsRow_nil _ _ _ _⟩
  case round =>
    obtain ⟨i, vK, hi, rfl, hof, ho⟩ := hrel
    have HF := Lib.hid hof
    obtain ⟨vp, vc, rfl⟩ := ho.shape
    rw [List.length_map, List.length_take, show min i Sha.primes80.length = i from by rw [Nat.min_def, if_pos (by show i ≤ 80; omega)]] at hof ho HF
    clear hof
    have HO := Lib.hid ho
    clear ho
    have c1 := HF.out.cell 1 (.int .i64 64) rfl
    by_cases hlt : i < 64
    · have hp16 : Sha.primes80.getD i 0 < 512 := by
        have := Sha.primes80_pos (Sha.primes80.getD i 0) (by
          rw [List.getD_eq_getElem?_getD, List.getElem?_eq_getElem (show i < Sha.primes80.length by show i < 80; omega)]
          exact List.getElem_mem _)
        exact this.2
      have hnx : (Sha.primes80.take (i + 1)).map (fun p => Sha.root p 3 32) = (Sha.primes80.take i).map (fun p => Sha.root p 3 32) ++ [Sha.root (Sha.primes80.getD i 0) 3 32] := by
        rw [take_succ_getD _ i 0 (show i < Sha.primes80.length by show i < 80; omega), List.map_append]; rfl
      obtain ⟨p, hp⟩ : ∃ p, p = Sha.primes80.getD i 0 := ⟨_, rfl⟩
      rw [← hp] at hp16 hnx
      obtain ⟨r, hr⟩ : ∃ r, r = Sha.root p 3 32 := ⟨_, rfl⟩
      rw [← hr] at hnx
      have hc : ∀ u : World, Calls Try.prog 37 #[.int .u64 (p : Nat), .int .i64 3, .int .i64 32] u fun e w' => e = .returned (.int .u64 (r : Nat)) ∧ Below u.heap.size u w' := fun u => by
        rw [hr]; exact rootW p 3 32 (by omega) (.inr rfl) (.inl rfl) u
      have HC := Lib.hid hc
      have HNX := Lib.hid hnx
      have q0 := HF.out.cell 0 (.int .i64 32) rfl
      have q1 := HF.out.cell 15 (.slice vp i vc) rfl
      have q2 : wr.cell? ⟨gP, i, none⟩ = some (.int .u64 (Sha.primes80.getD i 0 : Nat)) := HF.out.p i (by omega)
      have g1 : n0 + 1 < wr.heap.size := by have := HF.out.s; have := HF.out.hb; omega
      have g2 : gP < wr.heap.size := by have := HF.out.s; have := HF.out.hp; omega
      clear hc hnx hr
      rw [← hp] at q2
      clear hp
      have HOD : Hid (Owns64 wr.drew base (.slice vp i vc) ((Sha.primes80.take i).map (fun p => Sha.root p 3 32))) := World.ownsRow.drew HO.out
      have MK : Hid (∀ (w3 w4 : World), Below wr.drew.heap.size wr.drew w3 → (w3.alloc (.cells #[.int .u64 r] 58)).grownBy w4 (Value.slice vp i vc).ownBlock → OfS n0 base gP w w4 (rk32 (.slice vp i vc) nilV)) := fun w3 w4 h3 h4 =>
        ((HF.out.drew.below h3).alloc _).grown h4 (fun k hk => (HO.out.block hk).1)
      have HOS := Lib.hid HF.out.s
      have HLEN : Hid (((Sha.primes80.take i).map (fun p => Sha.root p 3 32)).length = i) := by
        unfold Hid; rw [List.length_map, List.length_take, Nat.min_def, if_pos (by show i ≤ 80; omega)]
      have q3 := HF.out.free 15
      have ne1 : (Value.slice vp i vc).ownBlock ≠ some (n0 + 1) := fun e => by have := (HO.out.block e).1; have := HF.out.hb; omega
      have ne2 : (Value.slice vp i vc).ownBlock ≠ some gP := fun e => by have := (HO.out.block e).1; have := HF.out.hp; omega
      obtain ⟨i0, hi0, hz0, hz1, hz2⟩ := info_parts info58
      have hb1 : (0 : Int) ≤ (i : Int) := by omega
      have hb2 : (i : Int) < 80 := by omega
      go_wp2_with fail
      go_region_law (first
          | (refine step_calls (by rfl) 37 _ _ (by rfl) #[.int .u64 (p : Nat), .int .i64 3, .int .i64 32] (by simp [Act.eval]) (enters_of Try.func37 (by kernel_rfl) rfl) (.int .u64 (r : Nat)) _ (HC.out _) ?_; intro w3 hb3; have k1 := (HF.out.drew.below hb3).cell 15 (.slice vp i vc) rfl; have k2 := ((HF.out.drew.below hb3).alloc (.cells #[.int .u64 r] 58)).cell 15 (.slice vp i vc) rfl; have k3 := (HF.out.drew.below hb3).cell 0 (.int .i64 32) rfl)
          | (refine step_append_lies _ (by rfl) _ _ _ (by rfl) base 58 i0 _ 1 8 Try.underlying49 hi0 hz0 hz1 hz2 rfl (by omega) (.slice vp i vc) i (nums .u64 ((Sha.primes80.take i).map (fun p => Sha.root p 3 32))) (by rfl) (by have h := (HOD.out.below hb3).alloc (.cells #[.int .u64 r] 58); unfold Owns64 at h; rw [HLEN.out] at h; exact h) ⟨w3.heap.size, 0, none⟩ 1 1 [.int .u64 r] (by rfl) (by rfl) (World.news_of_block (cs := #[.int .u64 r]) (t := 58) (fr := (0, 0)) (heap_alloc_new w3 _)) (by simp [Value.oneCell']) (by omega) (by unfold maxLen; omega) (by omega) (by have := HOS.out; have := hb3.size; simp at this; simp; omega) (w3.heap.size + 1) (by simp) ?_; intro gg cap w4 hown4 hgrow4 hat4 hlt4; have hof4 := Lib.hid (MK.out _ _ hb3 hgrow4); have k4 := hof4.out.cell 15 _ rfl; have k5 := hof4.out.free 15))
      all_goals go_wp2_with fail
      all_goals exact ⟨⟨i + 1, _, by omega, rfl, hof4.out.set HNE.out 15 _, of_step 15 _ hof4.out hown4 HLEN.out HNX.out⟩, by simp [intOf]; omega⟩
    · have hL : (Sha.primes80.take i).map (fun p => Sha.root p 3 32) = Sha.keys32 := by
        rw [show i = 64 by omega, ← Sha.keys_root32]
      rw [hL] at HO
      obtain ⟨gK, cK, hv, _, _, hcK, _⟩ := HO.out.form (by decide)
      have hv1 : vp = some ⟨gK, 0, none⟩ := by injection hv
      subst hv1
      have HOK := Lib.hid HO.out
      have HOF2 := Lib.hid HF.out.rebase
      have hgK := (HO.out.block (k := gK) rfl)
      have hgb : base ≤ wr.heap.size := HF.out.s
      have hgK0 : n0 + 2 ≤ gK := by have := HF.out.hb; omega
      have hneK : gK ≠ n0 + 1 := by omega
      obtain ⟨base2, hbase2⟩ : ∃ b, b = wr.heap.size := ⟨_, rfl⟩
      rw [← hbase2] at HOF2 hgK
      have hgK2 := hgK.2
      have HCK : Hid (Cells64 wr gK 64 (fun j => Sha.keys32.getD j 0)) := hcK
      clear hL hv hcK hbase2 hgK hgb HO HF HOF
      obtain ⟨wo, rfl⟩ : ∃ wo : World, wo = wr := ⟨_, rfl⟩
      go_wp2_with fail
      go_loopw [8] (fun vj wr => ∃ (j : Nat) (vF : Value), j ≤ 8 ∧ vj = .int .i64 (j : Nat) ∧ OfS n0 base2 gP w wr (rk32 (.slice (some ⟨gK, 0, none⟩) i vc) vF) ∧ Cells64 wr gK 64 (fun j => Sha.keys32.getD j 0) ∧ Owns64 wr base2 vF ((Sha.primes80.take j).map (fun p => Sha.root p 2 32))) (fun vj _ => (8 - intOf vj).toNat)
      case atStart => exact ⟨0, nilV, by omega, rfl, HOF2.out, HCK.out, World.ownsRow_nil _ _ _ _⟩
      case round =>
        obtain ⟨j, vF, hj, rfl, hof, hck, ho⟩ := hrel
        obtain ⟨fp, fc, rfl⟩ := ho.shape
        rw [List.length_map, List.length_take, show min j Sha.primes80.length = j from by rw [Nat.min_def, if_pos (by show j ≤ 80; omega)]] at hof ho
        have HF := Lib.hid hof
        have HO := Lib.hid ho
        have HC3 := Lib.hid hck
        clear ho hof hck
        by_cases hlt : j < 8
        · have hp16 : Sha.primes80.getD j 0 < 512 := by
            have := Sha.primes80_pos (Sha.primes80.getD j 0) (by
              rw [List.getD_eq_getElem?_getD, List.getElem?_eq_getElem (show j < Sha.primes80.length by show j < 80; omega)]
              exact List.getElem_mem _)
            exact this.2
          have hnx : (Sha.primes80.take (j + 1)).map (fun p => Sha.root p 2 32) = (Sha.primes80.take j).map (fun p => Sha.root p 2 32) ++ [Sha.root (Sha.primes80.getD j 0) 2 32] := by
            rw [take_succ_getD _ j 0 (show j < Sha.primes80.length by show j < 80; omega), List.map_append]; rfl
          have q2 : wr.cell? ⟨gP, j, none⟩ = some (.int .u64 (Sha.primes80.getD j 0 : Nat)) := HF.out.p j (by omega)
          obtain ⟨p, hp⟩ : ∃ p, p = Sha.primes80.getD j 0 := ⟨_, rfl⟩
          rw [← hp] at hp16 hnx q2
          obtain ⟨r, hr⟩ : ∃ r, r = Sha.root p 2 32 := ⟨_, rfl⟩
          rw [← hr] at hnx
          have hc : ∀ u : World, Calls Try.prog 37 #[.int .u64 (p : Nat), .int .i64 2, .int .i64 32] u fun e w' => e = .returned (.int .u64 (r : Nat)) ∧ Below u.heap.size u w' := fun u => by
            rw [hr]; exact rootW p 2 32 (by omega) (.inl rfl) (.inl rfl) u
          have HC := Lib.hid hc
          have HNX := Lib.hid hnx
          have q0 := HF.out.cell 0 (.int .i64 32) rfl
          have q1 := HF.out.cell 16 (.slice fp j fc) rfl
          clear hc hnx hr hp
          have HOD : Hid (Owns64 wr.drew base2 (.slice fp j fc) ((Sha.primes80.take j).map (fun p => Sha.root p 2 32))) := World.ownsRow.drew HO.out
          have MK : Hid (∀ (w3 w4 : World), Below wr.drew.heap.size wr.drew w3 → (w3.alloc (.cells #[.int .u64 r] 58)).grownBy w4 (Value.slice fp j fc).ownBlock → OfS n0 base2 gP w w4 (rk32 (.slice (some ⟨gK, 0, none⟩) i vc) (.slice fp j fc)) ∧ Cells64 w4 gK 64 (fun j => Sha.keys32.getD j 0)) := fun w3 w4 h3 h4 =>
            ⟨((HF.out.drew.below h3).alloc _).grown h4 (fun k hk => (HO.out.block hk).1),
              (((show Cells64 wr.drew gK 64 (fun j => Sha.keys32.getD j 0) from HC3.out).below h3).below ((Below.refl _ _).alloc (Nat.le_refl _) _)).grown h4 (fun e => by have := (HO.out.block e).1; omega)⟩
          have HOS := Lib.hid HF.out.s
          have HLEN : Hid (((Sha.primes80.take j).map (fun p => Sha.root p 2 32)).length = j) := by
            unfold Hid; rw [List.length_map, List.length_take, Nat.min_def, if_pos (by show j ≤ 80; omega)]
          obtain ⟨i0, hi0, hz0, hz1, hz2⟩ := info_parts info58
          have hb1 : (0 : Int) ≤ (j : Int) := by omega
          have hb2 : (j : Int) < 80 := by omega
          have hb3w : IntKind.i64.wrap (j : Int) = (j : Int) := IntWalk.i64_in _ (by omega)
          go_wp2_with fail
          go_region_law (first
            | (refine step_calls (by rfl) 37 _ _ (by rfl) #[.int .u64 (p : Nat), .int .i64 2, .int .i64 32] (by simp [Act.eval]) (enters_of Try.func37 (by kernel_rfl) rfl) (.int .u64 (r : Nat)) _ (HC.out _) ?_; intro w3 hb3; have k1 := (HF.out.drew.below hb3).cell 16 (.slice fp j fc) rfl; have k2 := ((HF.out.drew.below hb3).alloc (.cells #[.int .u64 r] 58)).cell 16 (.slice fp j fc) rfl; have k3 := (HF.out.drew.below hb3).cell 0 (.int .i64 32) rfl)
            | (refine step_append_lies _ (by rfl) _ _ _ (by rfl) base2 58 i0 _ 1 8 Try.underlying49 hi0 hz0 hz1 hz2 rfl (by omega) (.slice fp j fc) j (nums .u64 ((Sha.primes80.take j).map (fun p => Sha.root p 2 32))) (by rfl) (by have h := (HOD.out.below hb3).alloc (.cells #[.int .u64 r] 58); unfold Owns64 at h; rw [HLEN.out] at h; exact h) ⟨w3.heap.size, 0, none⟩ 1 1 [.int .u64 r] (by rfl) (by rfl) (World.news_of_block (cs := #[.int .u64 r]) (t := 58) (fr := (0, 0)) (heap_alloc_new w3 _)) (by simp [Value.oneCell']) (by omega) (by unfold maxLen; omega) (by omega) (by have := HOS.out; have := hb3.size; simp at this; simp; omega) (w3.heap.size + 1) (by simp) ?_; intro gg cap w4 hown4 hgrow4 hat4 hlt4; have hof4 := Lib.hid (MK.out _ _ hb3 hgrow4); have k4 := hof4.out.1.cell 16 _ rfl; have k5 := hof4.out.1.free 16))
          all_goals go_wp2_with fail
          all_goals exact ⟨⟨j + 1, _, by omega, rfl, hof4.out.1.set HNE.out 16 _, hof4.out.2.set _ _ _ hneK, of_step 16 _ hof4.out.1 hown4 HLEN.out HNX.out⟩, by simp [intOf]; omega⟩
        · have hL : (Sha.primes80.take j).map (fun p => Sha.root p 2 32) = Sha.k32.init := by
            rw [show j = 8 by omega, ← Sha.init_root32]
          rw [hL] at HO
          obtain ⟨gF, cF, hv, _, _, hcF, _⟩ := HO.out.form (by decide)
          have hv1 : fp = some ⟨gF, 0, none⟩ := by injection hv
          subst hv1
          have hi64 : i = 64 := by omega
          have hj8 : j = 8 := by omega
          subst hi64
          subst hj8
          have HCF : Hid (Cells64 wr gF 8 (fun j => Sha.k32.init.getD j 0)) := hcF
          clear hL hv hcF
          have hinf : (Try.prog.info? 51).map (·.size) = some 17 := by kernel_rfl
          go_wp2_with (first | (refine wpList_load_row rfl 51 _ rfl (n0 + 1) rfl 51 _ (0, 0) _ HF.out.k Try.underlying51 rfl hinf ?_) | (refine wpList_store_blk rfl 51 _ _ rfl n0 0 (rk32 (.slice (some ⟨gK, 0, none⟩) 64 vc) (.slice (some ⟨gF, 0, none⟩) 8 fc)) rfl rfl rkz 51 HF.out.z (show 0 + 17 ≤ 17 by decide) hinf (one_rk32 _ _ rfl rfl) ?_; intro w5 hh5 hg5 hs5))
          have hz5 : w5.heap[n0]? = some (.cells (rk32 (.slice (some ⟨gK, 0, none⟩) 64 vc) (.slice (some ⟨gF, 0, none⟩) 8 fc)) 51 (0, 0)) := by rw [hh5]; rfl
          have hld := run_loadVar_row (P := Try.prog) w5 n0 51 51 _ (0, 0) _ hz5 Try.underlying51 rfl (by kernel_rfl)
          refine bodyPost_ret (v := .tuple #[.agg (rk32 (.slice (some ⟨gK, 0, none⟩) 64 vc) (.slice (some ⟨gF, 0, none⟩) 8 fc)), .bool true]) (by simp [results, Try.results24, asAddr, hld]) rfl ?_
          have hgF := (HO.out.block (k := gF) rfl).1
          have hbb := HF.out.hb
          have h := HN0.out
          subst h
          exact ⟨gK, vc, gF, fc, rfl, HC3.out.grown hg5 (fun e => by injection e with e; omega), HCF.out.grown hg5 (fun e => by injection e with e; omega), HF.out.b.grown hg5 (by have := HF.out.s; omega) (fun k e => by injection e with e; omega)⟩
end Go.Proofs.Ytjlhckgokdjajaa
