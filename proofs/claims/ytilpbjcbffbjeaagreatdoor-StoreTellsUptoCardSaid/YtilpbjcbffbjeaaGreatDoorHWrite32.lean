/- The walk of Write at a hash of 32 bits: what is written stands behind all that was. -/
import Derived.Test.YtilpbjcbffbjeaaGreatDoorHObj
import Derived.Test.YtilpbjcbffbjeaaGreatDoorHTold
namespace Go.Proofs.YtilpbjcbffbjeaaGreatDoor
set_option linter.unusedVariables false
open Go.RowKit
/-- What the object says of the bytes t. -/
structure HSt32 (t : List Nat) (v blk : Nat → Nat) : Prop where
  st : ∀ j, j < 8 → v j = (Sha.stateOf Sha.k32 t).getD j 0
  tail : ∀ j, j < t.length % 64 → blk j = t.getD (t.length - t.length % 64 + j) 0
  lt : ∀ c ∈ t, c < 256
def IsH32 (w : World) (B : Nat) (t : List Nat) : Prop := ∃ v32 v64 blk, HBlk w B kc32 v32 v64 blk t.length ∧ HSt32 t v32 blk
def strLen : Value → Nat
  | .string s => s.size
  | _ => 0
theorem HSt32.short {t p : List Nat} {v blk blk' : Nat → Nat} (h : HSt32 t v blk) (hp : t.length % 64 + p.length < 64) (hl : ∀ c ∈ p, c < 256)
    (hb : ∀ j, blk' j = if t.length % 64 ≤ j ∧ j < t.length % 64 + p.length then p.getD (j - t.length % 64) 0 else blk j) : HSt32 (t ++ p) v blk' := by
  have e : (t ++ p).length % 64 = t.length % 64 + p.length := by rw [List.length_append]; omega
  refine ⟨fun j hj => ?_, fun j hj => ?_, fun c hc => (List.mem_append.1 hc).elim (h.lt c) (hl c)⟩
  · rw [Sha.stateOf_short Sha.k32 t p hp]; exact h.st j hj
  · rw [e] at hj ⊢
    have e2 : (t ++ p).length - (t.length % 64 + p.length) = t.length - t.length % 64 := by rw [List.length_append]; omega
    rw [e2, hb]
    by_cases c : t.length % 64 ≤ j
    · rw [if_pos ⟨c, hj⟩, Sha.getD_right (by omega)]
      congr 1; omega
    · rw [if_neg (by omega), Sha.getD_left (by omega)]
      exact h.tail j (by omega)
theorem HSt32.full {t p : List Nat} {v blk blk' : Nat → Nat} (h : HSt32 t v blk) (hp : t.length % 64 + p.length = 64) (hl : ∀ c ∈ p, c < 256)
    (hb : ∀ j, blk' j = if t.length % 64 ≤ j ∧ j < t.length % 64 + p.length then p.getD (j - t.length % 64) 0 else blk j) :
    HSt32 (t ++ p) (fun j => (Sha.next Sha.k32 (Sha.stateOf Sha.k32 t) ((List.range 64).map blk')).getD j 0) blk' := by
  have e : (t ++ p).length % 64 = 0 := by rw [List.length_append]; omega
  refine ⟨fun j _ => ?_, fun j hj => (by omega), fun c hc => (List.mem_append.1 hc).elim (h.lt c) (hl c)⟩
  rw [Sha.stateOf_full Sha.k32 (by decide) t p hp]
  congr 2
  refine List.ext_getElem? fun i => ?_
  have hln : ((t ++ p).drop (t.length - t.length % Sha.k32.block)).length = 64 := by
    rw [List.length_drop, List.length_append]; show t.length + p.length - (t.length - t.length % 64) = 64; omega
  by_cases hi : i < 64
  · rw [List.getElem?_map, List.getElem?_range hi, List.getElem?_drop]
    show some (blk' i) = (t ++ p)[t.length - t.length % 64 + i]?
    rw [hb]
    by_cases c : t.length % 64 ≤ i
    · rw [if_pos (by omega), List.getElem?_append_right (by omega), show t.length - t.length % 64 + i - t.length = i - t.length % 64 by omega, List.getD_eq_getElem?_getD, List.getElem?_eq_getElem (by omega)]
      rfl
    · rw [if_neg (by omega), List.getElem?_append_left (by omega), h.tail i (by omega), List.getD_eq_getElem?_getD, List.getElem?_eq_getElem (by omega)]
      rfl
  · rw [List.getElem?_eq_none (by simp; omega), List.getElem?_eq_none (by omega)]

set_option maxRecDepth 100000 in
set_option maxHeartbeats 1000000 in
theorem write32 (B : Nat) (t : List Nat) (s : ByteArray) (w : World) (hH : IsH32 w B t) (hsz : t.length + s.size ≤ 4611686018427387904) :
    Calls Tryz.prog 139 #[.pointer (some ⟨B, 0, none⟩), .string s] w fun e w' => e = .returned (.tuple #[]) ∧ IsH32 w' B (t ++ bs s) ∧ w.grownBy w' (some B) := by
  have hBlt : B < w.heap.size := by obtain ⟨_, _, _, h, _⟩ := hH; exact h.lt
  go_enter Tryz.func139, Tryz.ntmps139
  go_wp2_with (first | (go_at_call 152; refine (keysW32 _).mono ?_; rintro e w' ⟨rfl, rfl⟩) | (go_at_call 153; refine (keysW64 _).mono ?_; rintro e w' ⟨rfl, rfl⟩))
  generalize hW : ((w.alloc (Obj.cells (rowOf IntKind.u32 64 kf32).toArray 237)).alloc (Obj.cells (rowOf IntKind.u64 80 kf64).toArray 199)) = W
  have H : Row W w.heap.size 237 .u32 64 kf32 ∧ w.grownBy W (some B) ∧ IsH32 W B t ∧ W.heap.size = w.heap.size + 2 := by
    subst hW
    refine ⟨Row.of (Eq.trans (heap_lt (by simp)) (heap_at rfl)), ⟨rfl, rfl, rfl, by simp; omega, fun k hk _ => ?_⟩, ?_, by simp⟩
    · exact Eq.trans (heap_lt (by simp; omega)) (heap_lt hk)
    · obtain ⟨v32, v64, blk, h1, h2⟩ := hH
      exact ⟨v32, v64, blk, h1.same (Eq.trans (heap_lt (by simp; omega)) (heap_lt hBlt)), h2⟩
  obtain ⟨hkr, hg0, hH0, hWs⟩ := H
  have HKR := Lib.hid hkr
  have HG0 := Lib.hid hg0
  have HWS := Lib.hid hWs
  have HSZ := Lib.hid hsz
  clear hW hH hkr hg0 hWs hsz
  go_loopw [1] (fun v wr => ∃ (s' : ByteArray) (p : List Nat), v = .string s' ∧ Hid (bs s = p ++ bs s') ∧ IsH32 wr B (t ++ p) ∧ W.grownBy wr (some B)) (fun v _ => strLen v)
  case atStart => exact ⟨s, [], rfl, by unfold Hid; simp, by simpa using hH0, ⟨rfl, rfl, rfl, Nat.le_refl _, fun _ _ _ => rfl⟩⟩
  case round =>
    obtain ⟨s', p, rfl, hs, hH, hg⟩ := hrel
    obtain ⟨v32, v64, blk, hblk, hst⟩ := hH
    obtain ⟨L, hL⟩ : ∃ L, (t ++ p).length = L := ⟨_, rfl⟩
    rw [hL] at hblk
    have hsl : L + s'.size ≤ 4611686018427387904 := by
      have h1 := congrArg List.length hs.out
      have h2 := HSZ.out
      rw [length_bs, List.length_append, length_bs] at h1
      rw [List.length_append] at hL
      omega
    have hszr : w.heap.size + 2 ≤ wr.heap.size := by have := hg.size; have := HWS.out; omega
    by_cases h0 : s'.size = 0
    · have hne : s'.toList.isEmpty = true := by
        rw [Lib.toList_data]
        have : s'.data.toList.length = 0 := by rw [← Lib.size_eq]; exact h0
        rw [List.length_eq_zero_iff.1 this]; rfl
      have hfin : Hid (p = bs s) := by
        show p = bs s
        have h1 : bs s' = [] := List.length_eq_zero_iff.1 (by rw [length_bs]; exact h0)
        rw [hs.out, h1, List.append_nil]
      clear h0
      go_wp2_with fail
      go_end0
      refine ⟨rfl, ?_, HG0.out.trans hg⟩
      rw [← hfin.out]
      exact ⟨v32, v64, blk, by rw [hL]; exact hblk, hst⟩
    · have q0 : ∀ t : Grow wr, t.val.cell? ⟨B, 160, none⟩ = some (.int .i64 (L : Nat)) := fun t => (hblk.grow t).scell
      have q1 : ∀ t : Grow wr, t.val.cell? ⟨B, 13, none⟩ = some (.int .i64 64) := fun t => (hblk.grow t).kcell rfl
      have hne : s'.toList.isEmpty = false := by
        cases hh : s'.toList with
        | nil => exact absurd (by rw [Lib.size_eq, ← Lib.toList_data, hh]; rfl) h0
        | cons _ _ => rfl
      have hsl : ∀ w, (Instr.sliceAt 247 (.pointer (some ⟨B, 32, none⟩)) (some (.int .i64 ((L : Int) % 64))) (some (.int .i64 64)) none).run Tryz.prog w = .ok (.slice (some ⟨B, 32 + L % 64, none⟩) (64 - L % 64) (128 - L % 64)) w := fun w =>
        run_sliceAt_array Tryz.underlying247 (by kernel_rfl) (L % 64) 64 (by omega) (by omega) (by omega) w
      have hr : L % 64 < 64 := Nat.mod_lt _ (by decide)
      obtain ⟨n, hn⟩ : ∃ n, Nat.min s'.size (64 - L % 64) = n := ⟨_, rfl⟩
      have hn1 : n ≤ s'.size := hn ▸ Nat.min_le_left _ _
      have hn2 : L % 64 + n ≤ 64 := by have : n ≤ 64 - L % 64 := hn ▸ Nat.min_le_right _ _; omega
      have hn3 : 0 < n := by have : n = min s'.size (64 - L % 64) := hn.symm; omega
      have HN := Lib.hid hn
      have HL := Lib.hid hL
      have HST := Lib.hid hst
      clear hn hL hst
      go_wp2_with fail
      refine wp_region_fam_tail 20 (by kernel_rfl) (by kernel_rfl) Grow.val (Grow.start wr) ?_
      simp only [List.take_succ_cons, List.take_zero, List.drop_succ_cons, List.drop_zero]
      repeat go_big_quiet_step (fail)
      refine wpQuiet_nil ?_
      intro tt
      refine wpList_copy_blk rfl _ _ 126 9 rfl Tryz.underlying126 (by kernel_rfl) (L % 64) (64 - L % 64) (128 - L % 64) s' rfl rfl (hblk.grow tt) n HN.out.symm (by omega) ?_
      intro w1 hb1 hg1 hs1
      have hgg : W.grownBy w1 (some B) := hg.trans (World.grownBy.trans ⟨tt.below.os, tt.below.tape, tt.below.output, tt.below.size, fun k hk _ => tt.below.block k hk⟩ hg1)
      have c160 := hb1.scell
      have f160 := hb1.free 160
      have HB1 := Lib.hid hb1
      have HGG := Lib.hid hgg
      have hn1' : (n : Int) ≤ (s'.size : Int) := by omega
      clear hb1 hgg hg1 hs1 q0 q1 hblk hg
      go_wp2_with fail
      have hsum : ((L : Int) + (n : Int)) = ((L + n : Nat) : Int) := by omega
      rw [hsum]
      generalize hw2 : w1.setCell ⟨B, 160, none⟩ (.int .i64 ((L + n : Nat) : Int)) = w2
      have hb2 : HBlk w2 B kc32 v32 v64 (fun j => if L % 64 ≤ j ∧ j < L % 64 + n then (bs s').getD (j - L % 64) 0 else blk j) (L + n) := by rw [← hw2]; exact HB1.out.setSize _
      have hgg2 : W.grownBy w2 (some B) := by
        rw [← hw2]
        exact World.grownBy.trans HGG.out ⟨rfl, rfl, rfl, by simp [World.setCell], fun k _ hk => Below.heap_setCell _ _ _ _ (fun e => hk (by rw [e]))⟩
      have hszs : (s'.extract n s'.size).size < s'.size := by rw [← length_bs, bs_from, List.length_drop, length_bs]; omega
      have hbs' : Hid (bs s = (p ++ (bs s').take n) ++ bs (s'.extract n s'.size)) := by
        show _ = _
        rw [hs.out, bs_from, List.append_assoc, List.take_append_drop]
      have htk : ((bs s').take n).length = n := by rw [List.length_take, length_bs]; omega
      have hpl : ∀ c ∈ (bs s').take n, c < 256 := fun c hc => bs_lt s' c (List.mem_of_mem_take hc)
      have hlen : (t ++ (p ++ (bs s').take n)).length = L + n := by rw [← List.append_assoc, List.length_append, HL.out, htk]
      have hblk' : ∀ j, (fun j => if L % 64 ≤ j ∧ j < L % 64 + n then (bs s').getD (j - L % 64) 0 else blk j) j = if (t ++ p).length % 64 ≤ j ∧ j < (t ++ p).length % 64 + ((bs s').take n).length then ((bs s').take n).getD (j - (t ++ p).length % 64) 0 else blk j := by
        intro j
        rw [HL.out, htk]
        by_cases c : L % 64 ≤ j ∧ j < L % 64 + n
        · simp only [if_pos c]
          rw [List.getD_eq_getElem?_getD, List.getD_eq_getElem?_getD, List.getElem?_take, if_pos (by omega)]
        · simp only [if_neg c]
      have HBL' := Lib.hid hblk'
      have HTK := Lib.hid htk
      have HPL := Lib.hid hpl
      have HLEN := Lib.hid hlen
      clear hw2 c160 f160 HB1 HGG hblk' htk hpl hlen hsum
      have q0 : ∀ t : Grow w2, t.val.cell? ⟨B, 160, none⟩ = some (.int .i64 ((L + n : Nat) : Int)) := fun t => (hb2.grow t).scell
      have q1 : ∀ t : Grow w2, t.val.cell? ⟨B, 13, none⟩ = some (.int .i64 64) := fun t => (hb2.grow t).kcell rfl
      refine wp_region_fam (by kernel_rfl) (by kernel_rfl) Grow.val (Grow.start w2) ?_
      repeat go_big_quiet_step (fail)
      refine wpQuiet_nil ?_
      intro tt
      by_cases hc : L % 64 + n < 64
      · have hgt : (0 : Int) < ((L + n : Nat) : Int) % 64 := by omega
        go_wp2_with fail
        go_roundw
        case rel =>
          refine ⟨_, p ++ (bs s').take n, rfl, hbs', ⟨v32, v64, (fun j => if L % 64 ≤ j ∧ j < L % 64 + n then (bs s').getD (j - L % 64) 0 else blk j), ?_, ?_⟩, ?_⟩
          · rw [HLEN.out]; exact hb2.grow tt
          · rw [← List.append_assoc]
            exact HST.out.short (by rw [HL.out, HTK.out]; exact hc) HPL.out HBL'.out
          · exact World.grownBy.trans hgg2 ⟨tt.below.os, tt.below.tape, tt.below.output, tt.below.size, fun k hk _ => tt.below.block k hk⟩
        case measure => exact hszs
      · have hfull : L % 64 + n = 64 := by omega
        have hgt : ((L + n : Nat) : Int) % 64 = 0 := by omega
        obtain ⟨nf, hnf⟩ : ∃ f : Nat → Nat, (fun j => (Sha.next Sha.k32 (Sha.stateOf Sha.k32 (t ++ p)) ((List.range 64).map (fun j => if L % 64 ≤ j ∧ j < L % 64 + n then (bs s').getD (j - L % 64) 0 else blk j))).getD j 0) = f := ⟨_, rfl⟩
        have hst2 : HSt32 (t ++ (p ++ (bs s').take n)) nf (fun j => if L % 64 ≤ j ∧ j < L % 64 + n then (bs s').getD (j - L % 64) 0 else blk j) := by
          rw [← List.append_assoc, ← hnf]
          exact HST.out.full (by rw [HL.out, HTK.out]; exact hfull) HPL.out HBL'.out
        generalize hbk : (fun j => if L % 64 ≤ j ∧ j < L % 64 + n then (bs s').getD (j - L % 64) 0 else blk j) = bk at *
        have hbl8 : ∀ c ∈ (List.range 64).map bk, c < 256 := by
          intro c hc
          obtain ⟨j, hj, rfl⟩ := List.mem_map.1 hc
          have hj := List.mem_range.1 hj
          rw [← hbk]
          show (if L % 64 ≤ j ∧ j < L % 64 + n then (bs s').getD (j - L % 64) 0 else blk j) < 256
          by_cases c : L % 64 ≤ j ∧ j < L % 64 + n
          · rw [if_pos c]
            have : j - L % 64 < (bs s').length := by rw [length_bs]; omega
            rw [List.getD_eq_getElem?_getD, List.getElem?_eq_getElem this]
            exact bs_lt s' _ (List.getElem_mem this)
          · rw [if_neg c, HST.out.tail j (by rw [HL.out]; omega)]
            have : (t ++ p).length - (t ++ p).length % 64 + j < (t ++ p).length := by rw [HL.out]; omega
            rw [List.getD_eq_getElem?_getD, List.getElem?_eq_getElem this]
            exact HST.out.lt _ (List.getElem_mem this)
        have hcall : Hid (∀ tt : Grow w2, Calls Tryz.prog 154 #[.agg #[.int .u32 (v32 0 : Nat), .int .u32 (v32 1 : Nat), .int .u32 (v32 2 : Nat), .int .u32 (v32 3 : Nat), .int .u32 (v32 4 : Nat), .int .u32 (v32 5 : Nat), .int .u32 (v32 6 : Nat), .int .u32 (v32 7 : Nat)],
            .slice (some ⟨B, 32, none⟩) 64 128, .slice (some ⟨w.heap.size, 0, none⟩) 64 64, .agg #[.int .i64 32, .int .i64 7, .int .i64 18, .int .i64 3, .int .i64 17, .int .i64 19, .int .i64 10, .int .i64 6, .int .i64 11, .int .i64 25, .int .i64 2, .int .i64 13, .int .i64 22, .int .i64 64, .int .i64 32, .int .i64 8]] tt.val fun e w' =>
            e = .returned (.agg (rowOf .u32 8 nf).toArray) ∧ Below tt.val.heap.size tt.val w') := by
          intro tt
          have h := next32 v32 (Sha.stateOf Sha.k32 (t ++ p)) HST.out.st B 32 128 w.heap.size ((List.range 64).map bk) tt.val (by omega) (by simp) hbl8 (Sha.stateOf_lt32 _)
            (fun j hj => by rw [(hb2.grow tt).bcell (by omega)]; simp [hj])
            (tt.row ((HKR.out.grown hgg2 (by intro e; injection e; omega)).congr fun _ _ => rfl))
          rw [hnf] at h
          exact h
        have HST2 := Lib.hid hst2
        have k0 := fun (t : Grow w2) => (hb2.grow t).kcell (j := 0) rfl
        have k1 := fun (t : Grow w2) => (hb2.grow t).kcell (j := 1) rfl
        have k2 := fun (t : Grow w2) => (hb2.grow t).kcell (j := 2) rfl
        have k3 := fun (t : Grow w2) => (hb2.grow t).kcell (j := 3) rfl
        have k4 := fun (t : Grow w2) => (hb2.grow t).kcell (j := 4) rfl
        have k5 := fun (t : Grow w2) => (hb2.grow t).kcell (j := 5) rfl
        have k6 := fun (t : Grow w2) => (hb2.grow t).kcell (j := 6) rfl
        have k7 := fun (t : Grow w2) => (hb2.grow t).kcell (j := 7) rfl
        have k8 := fun (t : Grow w2) => (hb2.grow t).kcell (j := 8) rfl
        have k9 := fun (t : Grow w2) => (hb2.grow t).kcell (j := 9) rfl
        have k10 := fun (t : Grow w2) => (hb2.grow t).kcell (j := 10) rfl
        have k11 := fun (t : Grow w2) => (hb2.grow t).kcell (j := 11) rfl
        have k12 := fun (t : Grow w2) => (hb2.grow t).kcell (j := 12) rfl
        have k14 := fun (t : Grow w2) => (hb2.grow t).kcell (j := 14) rfl
        have k15 := fun (t : Grow w2) => (hb2.grow t).kcell (j := 15) rfl
        have s0 := fun (t : Grow w2) => ((hb2.grow t).cell (16 + 0)).trans (hc_32 hb2.len (j := 0) (by omega))
        have s1 := fun (t : Grow w2) => ((hb2.grow t).cell (16 + 1)).trans (hc_32 hb2.len (j := 1) (by omega))
        have s2 := fun (t : Grow w2) => ((hb2.grow t).cell (16 + 2)).trans (hc_32 hb2.len (j := 2) (by omega))
        have s3 := fun (t : Grow w2) => ((hb2.grow t).cell (16 + 3)).trans (hc_32 hb2.len (j := 3) (by omega))
        have s4 := fun (t : Grow w2) => ((hb2.grow t).cell (16 + 4)).trans (hc_32 hb2.len (j := 4) (by omega))
        have s5 := fun (t : Grow w2) => ((hb2.grow t).cell (16 + 5)).trans (hc_32 hb2.len (j := 5) (by omega))
        have s6 := fun (t : Grow w2) => ((hb2.grow t).cell (16 + 6)).trans (hc_32 hb2.len (j := 6) (by omega))
        have s7 := fun (t : Grow w2) => ((hb2.grow t).cell (16 + 7)).trans (hc_32 hb2.len (j := 7) (by omega))
        simp only [Nat.reduceAdd] at s0 s1 s2 s3 s4 s5 s6 s7
        have HB2 := Lib.hid hb2
        have HGG2 := Lib.hid hgg2
        clear hst2 hbl8 hnf hbk hb2 hgg2 hc hfull
        go_wp2_with fail
        refine wp_region_fam_tail 17 (by kernel_rfl) (by kernel_rfl) Grow.val tt.again ?_
        simp only [List.take_succ_cons, List.take_zero, List.drop_succ_cons, List.drop_zero]
        repeat go_big_quiet_step ((refine Calls.fam_of (hcall.out _) (Grow.more _)))
        refine wpQuiet_nil ?_
        clear tt
        intro tt
        clear k0 k1 k2 k3 k4 k5 k6 k7 k8 k9 k10 k11 k12 k14 k15 s0 s1 s2 s3 s4 s5 s6 s7 q0 q1
        refine wpList_store_v32 rfl 245 _ _ rfl rfl rfl (HB2.out.grow tt) (by kernel_rfl) ?_
        intro w3 hb3 hg3 hs3
        simp only [Act.put]
        go_wp2_with fail
        go_roundw
        case rel =>
          refine ⟨_, p ++ (bs s').take n, rfl, hbs', ⟨nf, v64, bk, ?_, HST2.out⟩, ?_⟩
          · rw [HLEN.out]; exact hb3
          · exact World.grownBy.trans (World.grownBy.trans HGG2.out ⟨tt.below.os, tt.below.tape, tt.below.output, tt.below.size, fun k hk _ => tt.below.block k hk⟩) hg3
        case measure => exact hszs
end Go.Proofs.YtilpbjcbffbjeaaGreatDoor
