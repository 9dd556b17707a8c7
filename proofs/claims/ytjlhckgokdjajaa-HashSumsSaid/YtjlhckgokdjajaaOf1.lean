/- The walk of Of: the kind of number 1 (written out of that of number 0). -/
import Derived.Test.YtjlhckgokdjajaaOf
namespace Go.Proofs.Ytjlhckgokdjajaa
open Go.RowKit
set_option maxRecDepth 100000 in
set_option maxHeartbeats 800000 in
theorem of1 (w : World) :
    Calls Try.prog 24 #[.int .i64 1] w fun e w' => ∃ gK cK gF cF, e = .returned (.tuple #[.agg (rk64 (sl gK 80 cK) (sl gF 8 cF)), .bool true]) ∧
      Cells64 w' gK 80 (fun j => Sha.keys64.getD j 0) ∧ Cells64 w' gF 8 (fun j => Sha.k64.init.getD j 0) ∧ Below w.heap.size w w' := by
  go_enter Try.func24, Try.ntmps24
  go_wp2_with (first
    | (with_reducible refine wpList_run (o := ⟨some 2, _, _, _, _, _⟩) rfl (.pointer (some ⟨w.heap.size, 0, none⟩)) (w.alloc (.cells rkz 51)) (by kernel_rfl) ?_)
    | (with_reducible refine wpList_pure (o := ⟨some 13, _, _, _, _, _⟩) rfl (.agg (rk32 nilV nilV)) (fun _ => by kernel_rfl) ?_)
    | (with_reducible refine wpList_pure (o := ⟨some 20, _, _, _, _, _⟩) rfl (.agg (rk64 nilV nilV)) (fun _ => by kernel_rfl) ?_)
    | (refine wpList_store_blk rfl 51 _ _ rfl (w.heap.size + 1) 0 (rk32 nilV nilV) rfl rfl rkz 51 (heap_at (by simp)) (by decide) (by kernel_rfl) (one_rk32 _ _ rfl rfl) ?_; intro w0 hh0 hg0 hs0; replace hh0 := Lib.hid hh0; replace hg0 := Lib.hid hg0; replace hs0 := Lib.hid hs0)
    | (refine wpList_store_blk rfl 51 _ _ rfl (w.heap.size + 1) 0 (rk64 nilV nilV) rfl rfl _ 51 hh0.out (by decide) (by kernel_rfl) (one_rk64 _ _ rfl rfl) ?_; intro w1 hh1 hg1 hs1; replace hh1 := Lib.hid hh1; replace hg1 := Lib.hid hg1; replace hs1 := Lib.hid hs1))
  have hs0' : w0.heap.size = w.heap.size + 2 := by rw [hs0.out]; simp
  have hz : w1.heap[w.heap.size]? = some (.cells rkz 51 (0, 0)) := by
    rw [hg1.out.block w.heap.size (by omega) (by intro e; injection e with e; omega), hg0.out.block w.heap.size (by simp; omega) (by intro e; injection e with e; omega)]
    exact (heap_lt (by simp)).trans (heap_at rfl)
  have hk : w1.heap[w.heap.size + 1]? = some (.cells (rk64 nilV nilV) 51 (0, 0)) := by rw [hh1.out]; rfl
  have hb0 : Below w.heap.size w w0 := (((Below.refl _ _).alloc (Nat.le_refl _) _).alloc (by simp) _).trans (grown_below hg0.out (by omega) (by simp; omega))
  have hb : Below w.heap.size w w1 := hb0.trans (grown_below hg1.out (by omega) (by omega))
  have hs : w.heap.size + 2 = w1.heap.size := by rw [hs1.out, hs0']
  clear hh1 hg1 hs1 hh0 hg0 hs0 hs0' hb0
  obtain ⟨n0, hn0⟩ : ∃ n, n = w.heap.size := ⟨_, rfl⟩
  rw [← hn0] at hz hk hb hs ⊢
  have HN0 := Lib.hid hn0
  have HZ := Lib.hid hz
  have HKB := Lib.hid hk
  have HB := Lib.hid hb
  have hs2 : n0 + 2 ≤ w1.heap.size := by omega
  clear hn0 hz hk hb hs
  refine (primesW w1).mono ?_
  rintro e w2 ⟨gP, cP, rfl, hcP, hb2, hgP⟩
  have hgl : gP < w2.heap.size := block_lt_of_cell (hcP 0 (by decide))
  have hof : OfS n0 w2.heap.size gP w w2 (rk64 nilV nilV) := ⟨(hb2.block _ (by omega)).trans HZ.out, (hb2.block _ (by omega)).trans HKB.out, hcP, HB.out.trans (hb2.mono (by omega)), Nat.le_refl _, hgl, by have := hb2.size; omega⟩
  have hne : gP ≠ n0 + 1 := by omega
  obtain ⟨base, hbase⟩ : ∃ b, b = w2.heap.size := ⟨_, rfl⟩
  rw [← hbase] at hof
  have HOF := Lib.hid hof
  have HNE := Lib.hid hne
  clear hcP hb2 hgP hgl hof hne hbase hs2 HZ HKB HB
  go_wp2_with fail
  go_loopw [7] (fun vi wr => ∃ (i : Nat) (vK : Value), i ≤ 80 ∧ vi = .int .i64 (i : Nat) ∧ OfS n0 base gP w wr (rk64 vK nilV) ∧ Owns64 wr base vK ((Sha.primes80.take i).map (fun p => Sha.root p 3 64))) (fun vi _ => (80 - intOf vi).toNat)
  case atStart => exact ⟨0, nilV, by omega, rfl, HOF.out, World.ownsRow_nil _ _ _ _⟩
  case round =>
    obtain ⟨i, vK, hi, rfl, hof, ho⟩ := hrel
    have HF := Lib.hid hof
    obtain ⟨vp, vc, rfl⟩ := ho.shape
    rw [List.length_map, List.length_take, show min i Sha.primes80.length = i from by rw [Nat.min_def, if_pos (by show i ≤ 80; omega)]] at hof ho HF
    clear hof
    have HO := Lib.hid ho
    clear ho
    have c1 := HF.out.cell 1 (.int .i64 80) rfl
    by_cases hlt : i < 80
    · have hp16 : Sha.primes80.getD i 0 < 512 := by
        have := Sha.primes80_pos (Sha.primes80.getD i 0) (by
          rw [List.getD_eq_getElem?_getD, List.getElem?_eq_getElem (show i < Sha.primes80.length by show i < 80; omega)]
          exact List.getElem_mem _)
        exact this.2
      have hnx : (Sha.primes80.take (i + 1)).map (fun p => Sha.root p 3 64) = (Sha.primes80.take i).map (fun p => Sha.root p 3 64) ++ [Sha.root (Sha.primes80.getD i 0) 3 64] := by
        rw [take_succ_getD _ i 0 (show i < Sha.primes80.length by show i < 80; omega), List.map_append]; rfl
      obtain ⟨p, hp⟩ : ∃ p, p = Sha.primes80.getD i 0 := ⟨_, rfl⟩
      rw [← hp] at hp16 hnx
      obtain ⟨r, hr⟩ : ∃ r, r = Sha.root p 3 64 := ⟨_, rfl⟩
      rw [← hr] at hnx
      have hc : ∀ u : World, Calls Try.prog 37 #[.int .u64 (p : Nat), .int .i64 3, .int .i64 64] u fun e w' => e = .returned (.int .u64 (r : Nat)) ∧ Below u.heap.size u w' := fun u => by
        rw [hr]; exact rootW p 3 64 (by omega) (.inr rfl) (.inr rfl) u
      have HC := Lib.hid hc
      have HNX := Lib.hid hnx
      have q0 := HF.out.cell 0 (.int .i64 64) rfl
      have q1 := HF.out.cell 15 (.slice vp i vc) rfl
      have q2 : wr.cell? ⟨gP, i, none⟩ = some (.int .u64 (Sha.primes80.getD i 0 : Nat)) := HF.out.p i (by omega)
      have g1 : n0 + 1 < wr.heap.size := by have := HF.out.s; have := HF.out.hb; omega
      have g2 : gP < wr.heap.size := by have := HF.out.s; have := HF.out.hp; omega
      clear hc hnx hr
      rw [← hp] at q2
      clear hp
      have HOD : Hid (Owns64 wr.drew base (.slice vp i vc) ((Sha.primes80.take i).map (fun p => Sha.root p 3 64))) := World.ownsRow.drew HO.out
      have MK : Hid (∀ (w3 w4 : World), Below wr.drew.heap.size wr.drew w3 → (w3.alloc (.cells #[.int .u64 r] 58)).grownBy w4 (Value.slice vp i vc).ownBlock → OfS n0 base gP w w4 (rk64 (.slice vp i vc) nilV)) := fun w3 w4 h3 h4 =>
        ((HF.out.drew.below h3).alloc _).grown h4 (fun k hk => (HO.out.block hk).1)
      have HOS := Lib.hid HF.out.s
      have HLEN : Hid (((Sha.primes80.take i).map (fun p => Sha.root p 3 64)).length = i) := by
        unfold Hid; rw [List.length_map, List.length_take, Nat.min_def, if_pos (by show i ≤ 80; omega)]
      have q3 := HF.out.free 15
      have ne1 : (Value.slice vp i vc).ownBlock ≠ some (n0 + 1) := fun e => by have := (HO.out.block e).1; have := HF.out.hb; omega
      have ne2 : (Value.slice vp i vc).ownBlock ≠ some gP := fun e => by have := (HO.out.block e).1; have := HF.out.hp; omega
      obtain ⟨i0, hi0, hz0, hz1, hz2⟩ := info_parts info58
      have hb1 : (0 : Int) ≤ (i : Int) := by omega
      have hb2 : (i : Int) < 80 := by omega
      go_wp2_with fail
      go_region_law (first
          | (refine step_calls (by rfl) 37 _ _ (by rfl) #[.int .u64 (p : Nat), .int .i64 3, .int .i64 64] (by simp [Act.eval]) (enters_of Try.func37 (by kernel_rfl) rfl) (.int .u64 (r : Nat)) _ (HC.out _) ?_; intro w3 hb3; have k1 := (HF.out.drew.below hb3).cell 15 (.slice vp i vc) rfl; have k2 := ((HF.out.drew.below hb3).alloc (.cells #[.int .u64 r] 58)).cell 15 (.slice vp i vc) rfl; have k3 := (HF.out.drew.below hb3).cell 0 (.int .i64 64) rfl)
          | (refine step_append_lies _ (by rfl) _ _ _ (by rfl) base 58 i0 _ 1 8 Try.underlying49 hi0 hz0 hz1 hz2 rfl (by omega) (.slice vp i vc) i (nums .u64 ((Sha.primes80.take i).map (fun p => Sha.root p 3 64))) (by rfl) (by have h := (HOD.out.below hb3).alloc (.cells #[.int .u64 r] 58); unfold Owns64 at h; rw [HLEN.out] at h; exact h) ⟨w3.heap.size, 0, none⟩ 1 1 [.int .u64 r] (by rfl) (by rfl) (World.news_of_block (cs := #[.int .u64 r]) (t := 58) (fr := (0, 0)) (heap_alloc_new w3 _)) (by simp [Value.oneCell']) (by omega) (by unfold maxLen; omega) (by omega) (by have := HOS.out; have := hb3.size; simp at this; simp; omega) (w3.heap.size + 1) (by simp) ?_; intro gg cap w4 hown4 hgrow4 hat4 hlt4; have hof4 := Lib.hid (MK.out _ _ hb3 hgrow4); have k4 := hof4.out.cell 15 _ rfl; have k5 := hof4.out.free 15))
      all_goals go_wp2_with fail
      all_goals exact ⟨⟨i + 1, _, by omega, rfl, hof4.out.set HNE.out 15 _, of_step 15 _ hof4.out hown4 HLEN.out HNX.out⟩, by simp [intOf]; omega⟩
    · have hL : (Sha.primes80.take i).map (fun p => Sha.root p 3 64) = Sha.keys64 := by
        rw [show i = 80 by omega, Sha.keys_root64]; rfl
      rw [hL] at HO
      obtain ⟨gK, cK, hv, _, _, hcK, _⟩ := HO.out.form (by decide)
      have hv1 : vp = some ⟨gK, 0, none⟩ := by injection hv
      subst hv1
      have HOK := Lib.hid HO.out
      have HOF2 := Lib.hid HF.out.rebase
      have hgK := (HO.out.block (k := gK) rfl)
      have hgb : base ≤ wr.heap.size := HF.out.s
      have hgK0 : n0 + 2 ≤ gK := by have := HF.out.hb; omega
      have hneK : gK ≠ n0 + 1 := by omega
      obtain ⟨base2, hbase2⟩ : ∃ b, b = wr.heap.size := ⟨_, rfl⟩
      rw [← hbase2] at HOF2 hgK
      have hgK2 := hgK.2
      have HCK : Hid (Cells64 wr gK 80 (fun j => Sha.keys64.getD j 0)) := hcK
      clear hL hv hcK hbase2 hgK hgb HO HF HOF
      obtain ⟨wo, rfl⟩ : ∃ wo : World, wo = wr := ⟨_, rfl⟩
      go_wp2_with fail
      go_loopw [8] (fun vj wr => ∃ (j : Nat) (vF : Value), j ≤ 8 ∧ vj = .int .i64 (j : Nat) ∧ OfS n0 base2 gP w wr (rk64 (.slice (some ⟨gK, 0, none⟩) i vc) vF) ∧ Cells64 wr gK 80 (fun j => Sha.keys64.getD j 0) ∧ Owns64 wr base2 vF (((Sha.primes80.drop 8).take j).map (fun p => Sha.root p 2 64))) (fun vj _ => (8 - intOf vj).toNat)
      case atStart => exact ⟨0, nilV, by omega, rfl, HOF2.out, HCK.out, World.ownsRow_nil _ _ _ _⟩
      case round =>
        obtain ⟨j, vF, hj, rfl, hof, hck, ho⟩ := hrel
        obtain ⟨fp, fc, rfl⟩ := ho.shape
        rw [List.length_map, List.length_take, show min j (Sha.primes80.drop 8).length = j from by rw [Nat.min_def, if_pos (by show j ≤ 72; omega)]] at hof ho
        have HF := Lib.hid hof
        have HO := Lib.hid ho
        have HC3 := Lib.hid hck
        clear ho hof hck
        by_cases hlt : j < 8
        · have hgd : (Sha.primes80.drop 8).getD j 0 = Sha.primes80.getD (8 + j) 0 := by rw [List.getD_eq_getElem?_getD, List.getD_eq_getElem?_getD, List.getElem?_drop]
          have hp16 : Sha.primes80.getD (8 + j) 0 < 512 := by
            have := Sha.primes80_pos (Sha.primes80.getD (8 + j) 0) (by
              rw [List.getD_eq_getElem?_getD, List.getElem?_eq_getElem (show 8 + j < Sha.primes80.length by show 8 + j < 80; omega)]
              exact List.getElem_mem _)
            exact this.2
          have hnx : ((Sha.primes80.drop 8).take (j + 1)).map (fun p => Sha.root p 2 64) = ((Sha.primes80.drop 8).take j).map (fun p => Sha.root p 2 64) ++ [Sha.root (Sha.primes80.getD (8 + j) 0) 2 64] := by
            rw [take_succ_getD _ j 0 (show j < (Sha.primes80.drop 8).length by show j < 72; omega), List.map_append, hgd]; rfl
          have q2 : wr.cell? ⟨gP, 8 + j, none⟩ = some (.int .u64 (Sha.primes80.getD (8 + j) 0 : Nat)) := HF.out.p (8 + j) (by omega)
          clear hgd
          obtain ⟨p, hp⟩ : ∃ p, p = Sha.primes80.getD (8 + j) 0 := ⟨_, rfl⟩
          rw [← hp] at hp16 hnx q2
          obtain ⟨r, hr⟩ : ∃ r, r = Sha.root p 2 64 := ⟨_, rfl⟩
          rw [← hr] at hnx
          have hc : ∀ u : World, Calls Try.prog 37 #[.int .u64 (p : Nat), .int .i64 2, .int .i64 64] u fun e w' => e = .returned (.int .u64 (r : Nat)) ∧ Below u.heap.size u w' := fun u => by
            rw [hr]; exact rootW p 2 64 (by omega) (.inl rfl) (.inr rfl) u
          have HC := Lib.hid hc
          have HNX := Lib.hid hnx
          have q0 := HF.out.cell 0 (.int .i64 64) rfl
          have q1 := HF.out.cell 16 (.slice fp j fc) rfl
          clear hc hnx hr hp
          have HOD : Hid (Owns64 wr.drew base2 (.slice fp j fc) (((Sha.primes80.drop 8).take j).map (fun p => Sha.root p 2 64))) := World.ownsRow.drew HO.out
          have MK : Hid (∀ (w3 w4 : World), Below wr.drew.heap.size wr.drew w3 → (w3.alloc (.cells #[.int .u64 r] 58)).grownBy w4 (Value.slice fp j fc).ownBlock → OfS n0 base2 gP w w4 (rk64 (.slice (some ⟨gK, 0, none⟩) i vc) (.slice fp j fc)) ∧ Cells64 w4 gK 80 (fun j => Sha.keys64.getD j 0)) := fun w3 w4 h3 h4 =>
            ⟨((HF.out.drew.below h3).alloc _).grown h4 (fun k hk => (HO.out.block hk).1),
              (((show Cells64 wr.drew gK 80 (fun j => Sha.keys64.getD j 0) from HC3.out).below h3).below ((Below.refl _ _).alloc (Nat.le_refl _) _)).grown h4 (fun e => by have := (HO.out.block e).1; omega)⟩
          have HOS := Lib.hid HF.out.s
          have HLEN : Hid ((((Sha.primes80.drop 8).take j).map (fun p => Sha.root p 2 64)).length = j) := by
            unfold Hid; rw [List.length_map, List.length_take, Nat.min_def, if_pos (by show j ≤ 72; omega)]
          obtain ⟨i0, hi0, hz0, hz1, hz2⟩ := info_parts info58
          have hb1 : (0 : Int) ≤ 8 + (j : Int) := by omega
          have hb2 : 8 + (j : Int) < 80 := by omega
          have hb3w : IntKind.i64.wrap (8 + (j : Int)) = 8 + (j : Int) := IntWalk.i64_in _ (by omega)
          have hb4w : (8 + (j : Int)).toNat = 8 + j := by omega
          go_wp2_with fail
          go_region_law (first
            | (refine step_calls (by rfl) 37 _ _ (by rfl) #[.int .u64 (p : Nat), .int .i64 2, .int .i64 64] (by simp [Act.eval]) (enters_of Try.func37 (by kernel_rfl) rfl) (.int .u64 (r : Nat)) _ (HC.out _) ?_; intro w3 hb3; have k1 := (HF.out.drew.below hb3).cell 16 (.slice fp j fc) rfl; have k2 := ((HF.out.drew.below hb3).alloc (.cells #[.int .u64 r] 58)).cell 16 (.slice fp j fc) rfl; have k3 := (HF.out.drew.below hb3).cell 0 (.int .i64 64) rfl)
            | (refine step_append_lies _ (by rfl) _ _ _ (by rfl) base2 58 i0 _ 1 8 Try.underlying49 hi0 hz0 hz1 hz2 rfl (by omega) (.slice fp j fc) j (nums .u64 (((Sha.primes80.drop 8).take j).map (fun p => Sha.root p 2 64))) (by rfl) (by have h := (HOD.out.below hb3).alloc (.cells #[.int .u64 r] 58); unfold Owns64 at h; rw [HLEN.out] at h; exact h) ⟨w3.heap.size, 0, none⟩ 1 1 [.int .u64 r] (by rfl) (by rfl) (World.news_of_block (cs := #[.int .u64 r]) (t := 58) (fr := (0, 0)) (heap_alloc_new w3 _)) (by simp [Value.oneCell']) (by omega) (by unfold maxLen; omega) (by omega) (by have := HOS.out; have := hb3.size; simp at this; simp; omega) (w3.heap.size + 1) (by simp) ?_; intro gg cap w4 hown4 hgrow4 hat4 hlt4; have hof4 := Lib.hid (MK.out _ _ hb3 hgrow4); have k4 := hof4.out.1.cell 16 _ rfl; have k5 := hof4.out.1.free 16))
          all_goals go_wp2_with fail
          all_goals exact ⟨⟨j + 1, _, by omega, rfl, hof4.out.1.set HNE.out 16 _, hof4.out.2.set _ _ _ hneK, of_step 16 _ hof4.out.1 hown4 HLEN.out HNX.out⟩, by simp [intOf]; omega⟩
        · have hL : ((Sha.primes80.drop 8).take j).map (fun p => Sha.root p 2 64) = Sha.k64.init := by
            rw [show j = 8 by omega, ← Sha.init_root64]
          rw [hL] at HO
          obtain ⟨gF, cF, hv, _, _, hcF, _⟩ := HO.out.form (by decide)
          have hv1 : fp = some ⟨gF, 0, none⟩ := by injection hv
          subst hv1
          have hi64 : i = 80 := by omega
          have hj8 : j = 8 := by omega
          subst hi64
          subst hj8
          have HCF : Hid (Cells64 wr gF 8 (fun j => Sha.k64.init.getD j 0)) := hcF
          clear hL hv hcF
          have hinf : (Try.prog.info? 51).map (·.size) = some 17 := by kernel_rfl
          go_wp2_with (first | (refine wpList_load_row rfl 51 _ rfl (n0 + 1) rfl 51 _ (0, 0) _ HF.out.k Try.underlying51 rfl hinf ?_) | (refine wpList_store_blk rfl 51 _ _ rfl n0 0 (rk64 (.slice (some ⟨gK, 0, none⟩) 80 vc) (.slice (some ⟨gF, 0, none⟩) 8 fc)) rfl rfl rkz 51 HF.out.z (show 0 + 17 ≤ 17 by decide) hinf (one_rk64 _ _ rfl rfl) ?_; intro w5 hh5 hg5 hs5))
          have hz5 : w5.heap[n0]? = some (.cells (rk64 (.slice (some ⟨gK, 0, none⟩) 80 vc) (.slice (some ⟨gF, 0, none⟩) 8 fc)) 51 (0, 0)) := by rw [hh5]; rfl
          have hld := run_loadVar_row (P := Try.prog) w5 n0 51 51 _ (0, 0) _ hz5 Try.underlying51 rfl (by kernel_rfl)
          refine bodyPost_ret (v := .tuple #[.agg (rk64 (.slice (some ⟨gK, 0, none⟩) 80 vc) (.slice (some ⟨gF, 0, none⟩) 8 fc)), .bool true]) (by simp [results, Try.results24, asAddr, hld]) rfl ?_
          have hgF := (HO.out.block (k := gF) rfl).1
          have hbb := HF.out.hb
          have h := HN0.out
          subst h
          exact ⟨gK, vc, gF, fc, rfl, HC3.out.grown hg5 (fun e => by injection e with e; omega), HCF.out.grown hg5 (fun e => by injection e with e; omega), HF.out.b.grown hg5 (by have := HF.out.s; omega) (fun k e => by injection e with e; omega)⟩
end Go.Proofs.Ytjlhckgokdjajaa
