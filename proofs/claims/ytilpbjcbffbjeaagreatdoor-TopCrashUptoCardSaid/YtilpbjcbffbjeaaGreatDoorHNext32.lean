/- The walk of 'next' of 32 bits: a block of 64 bytes makes the next state. -/
import Derived.Test.YtilpbjcbffbjeaaGreatDoorPkT
namespace Go.Proofs.YtilpbjcbffbjeaaGreatDoor
set_option linter.unusedVariables false
open Go.RowKit
/-- One byte more in w[i], in memory. -/
theorem wRow_step32 {wr : World} {Bw : Nat} {bl : List Nat} {i m x c : Nat} (hbl : bl.length = 64) (hb8 : ∀ c ∈ bl, c < 256) (hi : i < 16) (hm : m < 4) (hx : Sha.wF Sha.k32 bl i m i = x) (hc : bl.getD (4 * i + m) 0 = c)
    (h : Row wr Bw 237 .u32 64 (Sha.wF Sha.k32 bl i m)) :
    Row (wr.setCell ⟨Bw, i, none⟩ (.int .u32 (bits BinOp.or IntKind.u32 ((x : Int) * 256 % 4294967296) ((c : Int) % 4294967296)))) Bw 237 .u32 64 (Sha.wF Sha.k32 bl i (m + 1)) := by
  have hcl : c < 256 := by
    have hlt : 4 * i + m < bl.length := by omega
    rw [← hc, List.getD_eq_getElem?_getD, List.getElem?_eq_getElem hlt]
    exact hb8 _ (List.getElem_mem hlt)
  have e : bits BinOp.or IntKind.u32 ((x : Int) * 256 % 4294967296) ((c : Int) % 4294967296) = ((x * 256 % 2 ^ 32 ||| c : Nat) : Int) := by
    rw [show (x : Int) * 256 % 4294967296 = ((x * 256 % 2 ^ 32 : Nat) : Int) by simp, show (c : Int) % 4294967296 = (c : Int) by omega]
    exact or_u32 _ _ (Nat.mod_lt _ (by decide)) (by omega)
  rw [e]
  refine (h.set (by omega) _).congr fun j _ => ?_
  rw [Sha.wF_step Sha.k32 bl i m (by simp only [Sha.k32]; omega), hx]
  simp only [Sha.k32, Nat.reduceDiv, hc]

/-- One number more of the schedule, in memory. -/
theorem gRow_step32 {wr : World} {Bw : Nat} {bl : List Nat} {i : Nat} {f : Nat → Nat} (h0 : 16 ≤ i) (hi : i < 64) (hf : Sha.gF Sha.k32 bl (i - 16) = f) (h : Row wr Bw 237 .u32 64 f) :
    Row (wr.setCell ⟨Bw, i, none⟩ (.int .u32 (((f (i - 16) : Int) + (Sha.mix 32 (f (i - 15)) 7 18 3 true : Nat) + (f (i - 7) : Nat) + (Sha.mix 32 (f (i - 2)) 17 19 10 true : Nat)) % 4294967296))) Bw 237 .u32 64 (Sha.gF Sha.k32 bl (i + 1 - 16)) := by
  have e : (((f (i - 16) : Int) + (Sha.mix 32 (f (i - 15)) 7 18 3 true : Nat) + (f (i - 7) : Nat) + (Sha.mix 32 (f (i - 2)) 17 19 10 true : Nat)) % 4294967296) =
      ((Sha.add 32 (Sha.add 32 (Sha.add 32 (f (i - 16)) (Sha.mix 32 (f (i - 15)) 7 18 3 true)) (f (i - 7))) (Sha.mix 32 (f (i - 2)) 17 19 10 true) : Nat) : Int) := by
    simp [Sha.add]
  rw [e]
  refine (h.set (by omega) _).congr fun j _ => ?_
  rw [show i + 1 - 16 = (i - 16) + 1 by omega, Sha.gF_step, hf, show 16 + (i - 16) = i by omega]
  rfl

theorem max_u32 : IntKind.u32.max = ((4294967295 : Nat) : Int) := by decide
theorem not_u32 (x : Nat) (hx : x < 2 ^ 32) : bits BinOp.xor IntKind.u32 IntKind.u32.max (x : Int) = ((2 ^ 32 - 1 - x : Nat) : Int) := by
  rw [max_u32, xor_u32 _ _ (by decide) hx]
  congr 1
  refine Nat.eq_of_testBit_eq fun i => ?_
  rw [Nat.testBit_xor, show 4294967295 = 2 ^ 32 - 1 by rfl, Nat.testBit_two_pow_sub_one, show 2 ^ 32 - 1 - x = 2 ^ 32 - (x + 1) by omega, Nat.testBit_two_pow_sub_succ hx]
  by_cases h : i < 32
  · simp [h]
  · simp [h, Nat.testBit_lt_two_pow (Nat.lt_of_lt_of_le hx (Nat.pow_le_pow_right (by decide) (Nat.le_of_not_lt h)))]
theorem tI32 (f : Nat → Nat) (hf : ∀ j, j < 8 → f j < 2 ^ 32) (ki wi : Nat) :
    ((f 7 : Int) + (Sha.mix 32 (f 4) 6 11 25 false : Nat) + bits BinOp.xor IntKind.u32 (bits BinOp.and IntKind.u32 (f 4 : Nat) (f 5 : Nat)) (bits BinOp.and IntKind.u32 (bits BinOp.xor IntKind.u32 IntKind.u32.max (f 4 : Nat)) (f 6 : Nat)) + (ki : Nat) + (wi : Nat)) % 4294967296 =
      (Sha.tF Sha.k32 f ki wi : Nat) := by
  rw [not_u32 _ (hf 4 (by omega)), and_u32 _ _ (hf 4 (by omega)) (hf 5 (by omega)), and_u32 _ _ (by omega) (hf 6 (by omega)), xor_u32 _ _ (Nat.and_lt_two_pow _ (hf 5 (by omega))) (Nat.and_lt_two_pow _ (hf 6 (by omega)))]
  simp [Sha.tF, Sha.add, Sha.k32]
theorem uI32 (f : Nat → Nat) (hf : ∀ j, j < 8 → f j < 2 ^ 32) :
    ((Sha.mix 32 (f 0) 2 13 22 false : Nat) + bits BinOp.xor IntKind.u32 (bits BinOp.xor IntKind.u32 (bits BinOp.and IntKind.u32 (f 0 : Nat) (f 1 : Nat)) (bits BinOp.and IntKind.u32 (f 0 : Nat) (f 2 : Nat))) (bits BinOp.and IntKind.u32 (f 1 : Nat) (f 2 : Nat))) % 4294967296 =
      (Sha.uF Sha.k32 f : Nat) := by
  rw [and_u32 _ _ (hf 0 (by omega)) (hf 1 (by omega)), and_u32 _ _ (hf 0 (by omega)) (hf 2 (by omega)), and_u32 _ _ (hf 1 (by omega)) (hf 2 (by omega)), xor_u32 _ _ (Nat.and_lt_two_pow _ (hf 1 (by omega))) (Nat.and_lt_two_pow _ (hf 2 (by omega))),
    xor_u32 _ _ (Nat.xor_lt_two_pow (Nat.and_lt_two_pow _ (hf 1 (by omega))) (Nat.and_lt_two_pow _ (hf 2 (by omega)))) (Nat.and_lt_two_pow _ (hf 2 (by omega)))]
  simp [Sha.uF, Sha.add, Sha.k32]
/-- A round's two sums, in memory. -/
theorem rRow_step32 {w5 : World} {Bv : Nat} {f : Nat → Nat} {t u : Nat} (h : Row w5 Bv 245 .u32 8 (fun j => if 1 ≤ j ∧ j < 1 + 7 then f (j - 1) else f j)) :
    Row ((w5.setCell ⟨Bv, 4, none⟩ (.int .u32 (((f 3 : Nat) + (t : Nat) : Int) % 4294967296))).setCell ⟨Bv, 0, none⟩ (.int .u32 (((t : Nat) + (u : Nat) : Int) % 4294967296))) Bv 245 .u32 8 (Sha.nF Sha.k32 f t u) := by
  rw [show ((f 3 : Nat) + (t : Nat) : Int) % 4294967296 = (Sha.add 32 (f 3) t : Nat) by simp [Sha.add], show ((t : Nat) + (u : Nat) : Int) % 4294967296 = (Sha.add 32 t u : Nat) by simp [Sha.add]]
  refine ((h.set (by omega) _).set (by omega) _).congr fun j hj => ?_
  unfold Sha.nF
  by_cases h0 : j = 0
  · rw [if_pos h0, if_pos h0]; rfl
  · rw [if_neg h0, if_neg h0]
    by_cases h4 : j = 4
    · rw [if_pos h4, if_pos h4]; rfl
    · rw [if_neg h4, if_neg h4, if_pos (by omega)]

set_option maxRecDepth 100000 in
set_option maxHeartbeats 1000000 in
theorem next32 (sf : Nat → Nat) (s : List Nat) (hsf : ∀ j, j < 8 → sf j = s.getD j 0) (b off cap kb : Nat) (bl : List Nat) (w : World) (hcap : 64 ≤ cap) (hbl : bl.length = 64) (hb8 : ∀ c ∈ bl, c < 256) (hs : ∀ j, s.getD j 0 < 2 ^ 32)
   (hb : ∀ j, j < 64 → w.cell? ⟨b, off + j, none⟩ = some (.int .u8 (bl.getD j 0 : Nat)))
   (hk : Row w kb 237 .u32 64 (fun j => Sha.keys32.getD j 0)) :
    Calls Tryz.prog 154 #[.agg (rowOf .u32 8 sf).toArray, .slice (some ⟨b, off, none⟩) 64 cap, .slice (some ⟨kb, 0, none⟩) 64 64, .agg #[.int .i64 32, .int .i64 7, .int .i64 18, .int .i64 3, .int .i64 17, .int .i64 19, .int .i64 10, .int .i64 6, .int .i64 11, .int .i64 25, .int .i64 2, .int .i64 13, .int .i64 22, .int .i64 64, .int .i64 32, .int .i64 8]] w fun e w' =>
      e = .returned (.agg (rowOf .u32 8 (fun j => (Sha.next Sha.k32 s bl).getD j 0)).toArray) ∧ Below w.heap.size w w' := by
  have hmk : ∀ w, (Instr.makeSlice 250 (.int .i64 64) (.int .i64 64)).run Tryz.prog w = .ok (.slice (some ⟨w.heap.size, 0, none⟩) 64 64) (w.alloc (.cells (rowOf .u32 64 (fun _ => 0)).toArray 237)) := fun _ => by kernel_rfl
  have HS := Lib.hid hs
  have HSF := Lib.hid hsf
  clear hsf
  have HB8 := Lib.hid hb8
  have HB := Lib.hid hb
  have HBL := Lib.hid hbl
  have HK := Lib.hid hk
  have hbb : b < w.heap.size := block_lt_of_cell (hb 0 (by omega))
  have hkb : kb < w.heap.size := hk.lt
  clear hs hb8 hb hbl hk
  go_enter Tryz.func154, Tryz.ntmps154
  go_wp2_with fail
  generalize hW : ((((w.alloc (Obj.cells (rowOf IntKind.u32 8 sf).toArray 245)).alloc _).alloc _).alloc _) = W
  have H : Row W (w.heap.size + 1 + 1 + 1) 237 .u32 64 (fun _ => 0) ∧ Row W w.heap.size 245 .u32 8 sf ∧ Row W (w.heap.size + 1 + 1) 245 .u32 8 (fun _ => 0) ∧
     W.heap[w.heap.size + 1]? = some (.cells #[.int .i64 32, .int .i64 7, .int .i64 18, .int .i64 3, .int .i64 17, .int .i64 19, .int .i64 10, .int .i64 6, .int .i64 11, .int .i64 25, .int .i64 2, .int .i64 13, .int .i64 22, .int .i64 64, .int .i64 32, .int .i64 8] 243 (0, 0)) ∧ Below w.heap.size w W ∧ W.heap.size = w.heap.size + 4 := by
    subst hW
    refine ⟨?_, ?_, ?_, ?_, ?_, by simp⟩
    · exact Row.of (heap_at (by simp))
    · refine Row.of (Eq.trans (heap_lt (by simp <;> omega)) (Eq.trans (heap_lt (by simp <;> omega)) (Eq.trans (heap_lt (by simp <;> omega)) (heap_at (by simp)))))
    · refine Row.of (Eq.trans (heap_lt (by simp <;> omega)) (heap_at (by simp)))
    · refine Eq.trans (heap_lt (by simp <;> omega)) (Eq.trans (heap_lt (by simp <;> omega)) (heap_at (by simp)))
    · exact ((((Below.refl _ _).alloc (Nat.le_refl _) _).alloc (by simp) _).alloc (by simp; omega) _).alloc (by simp; omega) _
  obtain ⟨h1, h2, h2r, h3, h4, h5⟩ := H
  clear hW
  have H2 := Lib.hid h2
  have H2R := Lib.hid h2r
  have H3 := Lib.hid h3
  have H5 := Lib.hid h5
  clear h2 h2r h3 h5
  go_loopw [22] (fun v wr => ∃ i : Nat, i ≤ 16 ∧ v = .int .i64 i ∧ Row wr (w.heap.size + 1 + 1 + 1) 237 .u32 64 (Sha.wF Sha.k32 bl i 0) ∧ Below (w.heap.size + 3) W wr) (fun v _ => 16 - (intOf v).toNat)
  case atStart => exact ⟨0, by omega, rfl, h1.congr fun j _ => (Sha.wF_start _ _ _).symm, Below.refl _ _⟩
  case round =>
    obtain ⟨i, hi, rfl, hrow, hbel⟩ := hrel
    have c0 : wr.cell? ⟨w.heap.size + 1, 0, none⟩ = some (.int .i64 32) := (hbel.cell (by simp)).trans (cell_of_row W _ 0 _ _ _ H3.out)
    by_cases hlt : i < 16
    · go_wp2_with fail
      obtain ⟨wo, rfl⟩ : ∃ wo : World, wo = wr := ⟨_, rfl⟩
      go_loopw [39] (fun v wr => ∃ m : Nat, m ≤ 4 ∧ v = .int .i64 m ∧ Row wr (w.heap.size + 1 + 1 + 1) 237 .u32 64 (Sha.wF Sha.k32 bl i m) ∧ Below (w.heap.size + 3) W wr) (fun v _ => 4 - (intOf v).toNat)
      case atStart => exact ⟨0, by omega, rfl, hrow, hbel⟩
      case round =>
        obtain ⟨m, hm, rfl, hrow, hbel⟩ := hrel
        have cw : wr.cell? ⟨w.heap.size + 1 + 1 + 1, i, none⟩ = some (.int .u32 (Sha.wF Sha.k32 bl i m i : Nat)) := hrow.cell (by omega)
        have fw : wr.frozen? ⟨w.heap.size + 1 + 1 + 1, i, none⟩ = false := hrow.free i
        have cb : m < 4 → wr.cell? ⟨b, off + 4 * i + m, none⟩ = some (.int .u8 (bl.getD (4 * i + m) 0 : Nat)) := fun hm => by
          have := HB.out (4 * i + m) (by omega)
          rw [← Nat.add_assoc] at this
          exact (hbel.cell (by simp; omega)).trans ((h4.cell (by exact hbb)).trans this)
        obtain ⟨x, hx⟩ : ∃ x, Sha.wF Sha.k32 bl i m i = x := ⟨_, rfl⟩
        obtain ⟨c, hc⟩ : ∃ c, bl.getD (4 * i + m) 0 = c := ⟨_, rfl⟩
        rw [hx] at cw
        rw [hc] at cb
        by_cases hmt : m < 4
        · have cb := cb hmt
          have R := Lib.hid (And.intro (wRow_step32 HBL.out HB8.out hlt hmt hx hc hrow) (hbel.setCell (p := ⟨w.heap.size + 1 + 1 + 1, i, none⟩) (by simp) (.int .u32 (bits BinOp.or IntKind.u32 ((x : Int) * 256 % 4294967296) ((c : Int) % 4294967296)))))
          clear hx hc hrow hbel
          go_wp2_with fail
          go_roundw
          case rel => exact ⟨m + 1, by omega, by go_num, R.out.1, R.out.2⟩
          case measure => simp [intOf]; omega
        · have e : m = 4 := by omega
          clear hx hc cw cb
          subst e
          go_wp2_with fail
          go_roundw
          case rel => exact ⟨i + 1, by omega, by go_num, hrow.congr fun j _ => Sha.wF_whole Sha.k32 bl i j, hbel⟩
          case measure => simp [intOf]; omega
    · have e : i = 16 := by omega
      subst e
      go_wp2_with fail
      have hrow := hrow.congr fun j _ => Sha.wF_gF Sha.k32 bl j
      clear c0 hlt hi
      obtain ⟨wo, rfl⟩ : ∃ wo : World, wo = wr := ⟨_, rfl⟩
      go_loopw [13] (fun v wr => ∃ i : Nat, 16 ≤ i ∧ i ≤ 64 ∧ v = .int .i64 i ∧ Row wr (w.heap.size + 1 + 1 + 1) 237 .u32 64 (Sha.gF Sha.k32 bl (i - 16)) ∧ Below (w.heap.size + 3) W wr) (fun v _ => 64 - (intOf v).toNat)
      case atStart => exact ⟨16, by omega, by omega, rfl, hrow, hbel⟩
      case round =>
        obtain ⟨i, hi0, hi, rfl, hrow, hbel⟩ := hrel
        have hsz : w.heap.size + 3 ≤ wr.heap.size := by have := hbel.size; have := H5.out; omega
        by_cases hlt : i < 64
        · have q0 : ∀ t : Grow wr, t.val.cell? ⟨w.heap.size + 1, 0, none⟩ = some (.int .i64 32) := fun t => t.cell ((hbel.cell (by simp)).trans (cell_of_row W _ 0 _ _ _ H3.out))
          have q1 : ∀ t : Grow wr, t.val.cell? ⟨w.heap.size + 1, 1, none⟩ = some (.int .i64 7) := fun t => t.cell ((hbel.cell (by simp)).trans (cell_of_row W _ 1 _ _ _ H3.out))
          have q2 : ∀ t : Grow wr, t.val.cell? ⟨w.heap.size + 1, 2, none⟩ = some (.int .i64 18) := fun t => t.cell ((hbel.cell (by simp)).trans (cell_of_row W _ 2 _ _ _ H3.out))
          have q3 : ∀ t : Grow wr, t.val.cell? ⟨w.heap.size + 1, 3, none⟩ = some (.int .i64 3) := fun t => t.cell ((hbel.cell (by simp)).trans (cell_of_row W _ 3 _ _ _ H3.out))
          have q4 : ∀ t : Grow wr, t.val.cell? ⟨w.heap.size + 1, 4, none⟩ = some (.int .i64 17) := fun t => t.cell ((hbel.cell (by simp)).trans (cell_of_row W _ 4 _ _ _ H3.out))
          have q5 : ∀ t : Grow wr, t.val.cell? ⟨w.heap.size + 1, 5, none⟩ = some (.int .i64 19) := fun t => t.cell ((hbel.cell (by simp)).trans (cell_of_row W _ 5 _ _ _ H3.out))
          have q6 : ∀ t : Grow wr, t.val.cell? ⟨w.heap.size + 1, 6, none⟩ = some (.int .i64 10) := fun t => t.cell ((hbel.cell (by simp)).trans (cell_of_row W _ 6 _ _ _ H3.out))
          obtain ⟨f, hf⟩ : ∃ f, Sha.gF Sha.k32 bl (i - 16) = f := ⟨_, rfl⟩
          rw [hf] at hrow
          have hfl : ∀ j, f j < 2 ^ 32 := by subst hf; exact fun j => Sha.gF_lt Sha.k32 bl (fun c hc => Nat.lt_trans (HB8.out c hc) (by decide)) _ j
          have r0 : ∀ t : Grow wr, t.val.cell? ⟨w.heap.size + 1 + 1 + 1, i - 16, none⟩ = some (.int .u32 (f (i - 16) : Nat)) := fun t => t.cell (hrow.cell (by omega))
          have r1 : ∀ t : Grow wr, t.val.cell? ⟨w.heap.size + 1 + 1 + 1, i - 15, none⟩ = some (.int .u32 (f (i - 15) : Nat)) := fun t => t.cell (hrow.cell (by omega))
          have r2 : ∀ t : Grow wr, t.val.cell? ⟨w.heap.size + 1 + 1 + 1, i - 7, none⟩ = some (.int .u32 (f (i - 7) : Nat)) := fun t => t.cell (hrow.cell (by omega))
          have r3 : ∀ t : Grow wr, t.val.cell? ⟨w.heap.size + 1 + 1 + 1, i - 2, none⟩ = some (.int .u32 (f (i - 2) : Nat)) := fun t => t.cell (hrow.cell (by omega))
          have r4 : ∀ t : Grow wr, t.val.cell? ⟨w.heap.size + 1 + 1 + 1, i, none⟩ = some (.int .u32 (f i : Nat)) := fun t => t.cell (hrow.cell (by omega))
          have r5 : ∀ t : Grow wr, t.val.frozen? ⟨w.heap.size + 1 + 1 + 1, i, none⟩ = false := fun t => (t.row hrow).free i
          have HF := Lib.hid hf
          have HFL := Lib.hid hfl
          clear hf hfl
          go_wp2_with fail
          refine wp_region_fam_tail 36 (by kernel_rfl) (by kernel_rfl) Grow.val (Grow.start wr) ?_
          simp only [List.take_succ_cons, List.take_zero, List.drop_succ_cons, List.drop_zero]
          repeat go_big_quiet_step ((refine Calls.fam_of (mixed32 _ _ _ _ _ (HFL.out _) (by decide) (by decide) (by decide) (by decide) (by decide) (by decide) _) (Grow.more _)))
          refine wpQuiet_nil ?_
          intro t
          go_wp2_with fail
          go_roundw
          case rel => exact ⟨i + 1, by omega, by omega, by go_num, gRow_step32 hi0 hlt HF.out (t.row hrow), ((hbel.trans (t.below.mono hsz)).setCell (p := ⟨w.heap.size + 1 + 1 + 1, i, none⟩) (by simp) _)⟩
          case measure => simp [intOf]; omega
        · obtain rfl : i = 64 := by omega
          clear hlt hi hi0
          obtain ⟨wo2, rfl⟩ : ∃ wo2 : World, wo2 = wr := ⟨_, rfl⟩
          have hrs : Row wo2 w.heap.size 245 .u32 8 sf := H2.out.below hbel (by omega)
          have HSZ := Lib.hid hsz
          obtain ⟨Bv, hBv⟩ : ∃ Bv, wo2.heap.size = Bv := ⟨_, rfl⟩
          go_wp2_with (first | (refine wpList_load_Row rfl 245 _ rfl w.heap.size rfl hrs Tryz.underlying245 (by kernel_rfl) ?_) | (refine wpList_store_Row rfl 245 _ _ rfl Bv (T := 245) (f := fun _ => 0) rfl rfl (Row.of (heap_at hBv)) (by kernel_rfl) ?_; intro w3 hv hgr hs3))
          have hb3 : Below Bv wo2 w3 := ((Below.refl _ _).alloc (by omega) _).trans (grown_below hgr (Nat.le_refl _) (by simp; omega))
          clear hgr hs3
          obtain ⟨wsf, hwsf⟩ : ∃ f, Sha.gF Sha.k32 bl (64 - 16) = f := ⟨_, rfl⟩
          have hws : Row wo2 (w.heap.size + 1 + 1 + 1) 237 .u32 64 wsf := by rw [← hwsf]; exact hrow
          have HWSF := Lib.hid hwsf
          have hlt3 : w.heap.size + 1 + 1 + 1 < Bv := by have := hws.lt; omega
          clear hwsf hrow hrs
          go_loopw [101] (fun v wr => ∃ n : Nat, n ≤ 64 ∧ v = .int .i64 n ∧ Row wr Bv 245 .u32 8 (Sha.rF Sha.k32 (Sha.grow Sha.k32 (Sha.words Sha.k32 bl) 48) s n) ∧ Below Bv wo2 wr) (fun v _ => 64 - (intOf v).toNat)
          case atStart => exact ⟨0, by omega, rfl, hv.congr fun j hj => HSF.out j hj, hb3⟩
          case round =>
            obtain ⟨n, hn, rfl, hv, hbel4⟩ := hrel
            by_cases hlt : n < 64
            · obtain ⟨f, hf⟩ : ∃ f, Sha.rF Sha.k32 (Sha.grow Sha.k32 (Sha.words Sha.k32 bl) 48) s n = f := ⟨_, rfl⟩
              rw [hf] at hv
              have hfl : ∀ j, j < 8 → f j < 2 ^ 32 := by subst hf; exact fun j hj => Sha.rF_lt Sha.k32 _ s HS.out n j hj
              have kcell : ∀ (j : Nat) (v : Value), (#[Value.int .i64 32, .int .i64 7, .int .i64 18, .int .i64 3, .int .i64 17, .int .i64 19, .int .i64 10, .int .i64 6, .int .i64 11, .int .i64 25, .int .i64 2, .int .i64 13, .int .i64 22, .int .i64 64, .int .i64 32, .int .i64 8])[j]? = some v → ∀ t : Grow wr, t.val.cell? ⟨w.heap.size + 1, j, none⟩ = some v := fun j v hv t =>
                t.cell ((hbel4.cell (by simp; omega)).trans ((hbel.cell (by simp)).trans ((cell_of_row W _ j _ _ _ H3.out).trans hv)))
              have q0 := kcell 0 _ rfl
              have q1 := kcell 7 _ rfl
              have q2 := kcell 8 _ rfl
              have q3 := kcell 9 _ rfl
              have q4 := kcell 10 _ rfl
              have q5 := kcell 11 _ rfl
              have q6 := kcell 12 _ rfl
              clear kcell
              have v0 : ∀ t : Grow wr, t.val.cell? ⟨Bv, 0, none⟩ = some (.int .u32 (f 0 : Nat)) := fun t => t.cell (hv.cell (by omega))
              have v1 : ∀ t : Grow wr, t.val.cell? ⟨Bv, 1, none⟩ = some (.int .u32 (f 1 : Nat)) := fun t => t.cell (hv.cell (by omega))
              have v2 : ∀ t : Grow wr, t.val.cell? ⟨Bv, 2, none⟩ = some (.int .u32 (f 2 : Nat)) := fun t => t.cell (hv.cell (by omega))
              have v3 : ∀ t : Grow wr, t.val.cell? ⟨Bv, 3, none⟩ = some (.int .u32 (f 3 : Nat)) := fun t => t.cell (hv.cell (by omega))
              have v4 : ∀ t : Grow wr, t.val.cell? ⟨Bv, 4, none⟩ = some (.int .u32 (f 4 : Nat)) := fun t => t.cell (hv.cell (by omega))
              have v5 : ∀ t : Grow wr, t.val.cell? ⟨Bv, 5, none⟩ = some (.int .u32 (f 5 : Nat)) := fun t => t.cell (hv.cell (by omega))
              have v6 : ∀ t : Grow wr, t.val.cell? ⟨Bv, 6, none⟩ = some (.int .u32 (f 6 : Nat)) := fun t => t.cell (hv.cell (by omega))
              have v7 : ∀ t : Grow wr, t.val.cell? ⟨Bv, 7, none⟩ = some (.int .u32 (f 7 : Nat)) := fun t => t.cell (hv.cell (by omega))
              obtain ⟨ki, hki⟩ : ∃ k, Sha.keys32.getD n 0 = k := ⟨_, rfl⟩
              have x1 : ∀ t : Grow wr, t.val.cell? ⟨kb, n, none⟩ = some (.int .u32 (ki : Nat)) := fun t => by
                have := HK.out.cell (j := n) (by omega)
                rw [hki] at this
                exact t.cell ((hbel4.cell (by simp; omega)).trans ((hbel.cell (by simp; omega)).trans ((h4.cell (by exact hkb)).trans this)))
              have x2 : ∀ t : Grow wr, t.val.cell? ⟨w.heap.size + 1 + 1 + 1, n, none⟩ = some (.int .u32 (wsf n : Nat)) := fun t => t.cell ((hbel4.cell (by simpa using hlt3)).trans (hws.cell (by omega)))
              have HF := Lib.hid hf
              have HFL := Lib.hid hfl
              obtain ⟨tN, htN⟩ : ∃ t, Sha.tF Sha.k32 f ki (wsf n) = t := ⟨_, rfl⟩
              obtain ⟨uN, huN⟩ : ∃ t, Sha.uF Sha.k32 f = t := ⟨_, rfl⟩
              have hT := tI32 f hfl ki (wsf n)
              have hU := uI32 f hfl
              rw [htN] at hT
              rw [huN] at hU
              have HTN := Lib.hid htN
              have HUN := Lib.hid huN
              clear htN huN
              have HKI := Lib.hid hki
              clear hf hfl hki
              go_wp2_with fail
              refine wp_region_fam (by kernel_rfl) (by kernel_rfl) Grow.val (Grow.start wr) ?_
              repeat go_big_quiet_step ((refine Calls.fam_of (mixed32 _ _ _ _ _ (HFL.out _ (by omega)) (by decide) (by decide) (by decide) (by decide) (by decide) (by decide) _) (Grow.more _)))
              refine wpQuiet_nil ?_
              intro t
              go_wp2_with fail
              refine wp_region_fam (by kernel_rfl) (by kernel_rfl) Grow.val t.again ?_
              repeat go_big_quiet_step ((refine Calls.fam_of (mixed32 _ _ _ _ _ (HFL.out _ (by omega)) (by decide) (by decide) (by decide) (by decide) (by decide) (by decide) _) (Grow.more _)))
              refine wpQuiet_nil ?_
              clear t
              intro t
              go_wp2_with fail
              refine wp_region_fam_tail 2 (by kernel_rfl) (by kernel_rfl) Grow.val t.again ?_
              simp only [List.take_succ_cons, List.take_zero, List.drop_succ_cons, List.drop_zero]
              repeat go_big_quiet_step (fail)
              refine wpQuiet_nil ?_
              clear t
              intro t
              refine wpList_copy_Row rfl _ _ 250 250 rfl 237 Tryz.underlying250 (by kernel_rfl) Bv 1 7 7 ⟨Bv, 0, none⟩ 7 8 rfl rfl (t.row hv) f 7 rfl ?_ (by omega) ?_
              · intro j hj
                have := (t.row hv).cell (j := j) (by omega)
                unfold Addr.add
                split
                · rename_i h0; subst h0; exact this
                · simpa using this
              intro w5 hv5 hg5 hs5
              have hb5 : Below Bv wo2 w5 := (hbel4.trans (t.below.mono (Nat.le_of_lt hv.lt))).trans (grown_below hg5 (Nat.le_refl _) (Nat.le_of_lt (t.row hv).lt))
              have c4 : w5.cell? ⟨Bv, 4, none⟩ = some (.int .u32 (f 3 : Nat)) := hv5.cell (by omega)
              have c0 : w5.cell? ⟨Bv, 0, none⟩ = some (.int .u32 (f 0 : Nat)) := hv5.cell (by omega)
              have f4 := hv5.free 4
              have f0 := hv5.free 0
              have HV5 := Lib.hid hv5
              have HB5 := Lib.hid hb5
              clear hg5 hs5 hv5 hb5 v0 v1 v2 v3 v4 v5 v6 v7 q0 q1 q2 q3 q4 q5 q6 x1 x2 hv hbel4
              go_wp2_with fail
              go_roundw
              case rel =>
                refine ⟨n + 1, by omega, by go_num, ?_, (HB5.out.setCell (p := ⟨Bv, 4, none⟩) (Nat.le_refl _) _).setCell (p := ⟨Bv, 0, none⟩) (Nat.le_refl _) _⟩
                refine (rRow_step32 HV5.out).congr fun j hj => ?_
                rw [Sha.rF_step _ _ _ _ _ hj, HF.out]
                have e1 : (Sha.grow Sha.k32 (Sha.words Sha.k32 bl) 48).getD n 0 = wsf n := by rw [← HWSF.out]; rfl
                rw [e1, show Sha.k32.keys = Sha.keys32 from rfl, HKI.out, HTN.out, HUN.out]
              case measure => simp [intOf]; omega
            · obtain rfl : n = 64 := by omega
              clear hlt hn
              obtain ⟨w4, rfl⟩ : ∃ w4 : World, w4 = wr := ⟨_, rfl⟩
              go_wp2_with fail
              go_loopw [175] (fun v wr => ∃ i : Nat, i ≤ 8 ∧ v = .int .i64 i ∧ Row wr Bv 245 .u32 8 (fun j => if j < i then (Sha.next Sha.k32 s bl).getD j 0 else Sha.rF Sha.k32 (Sha.grow Sha.k32 (Sha.words Sha.k32 bl) 48) s 64 j) ∧ Below Bv wo2 wr) (fun v _ => 8 - (intOf v).toNat)
              case atStart => exact ⟨0, by omega, rfl, hv.congr fun j _ => by rw [if_neg (by omega)], hbel4⟩
              case round =>
                obtain ⟨i, hi, rfl, hv, hbel4⟩ := hrel
                by_cases hlt : i < 8
                · have r0 : ∀ t : Grow wr, t.val.cell? ⟨Bv, i, none⟩ = some (.int .u32 (Sha.rF Sha.k32 (Sha.grow Sha.k32 (Sha.words Sha.k32 bl) 48) s 64 i : Nat)) := fun t => by
                    have := t.cell (hv.cell (j := i) (by omega))
                    rw [if_neg (by omega)] at this
                    exact this
                  have r1 : ∀ t : Grow wr, t.val.cell? ⟨w.heap.size, i, none⟩ = some (.int .u32 (sf i : Nat)) := fun t => t.cell ((hbel4.cell (by simp; omega)).trans ((hbel.cell (by simp)).trans (H2.out.cell (by omega))))
                  have r2 : ∀ t : Grow wr, t.val.frozen? ⟨Bv, i, none⟩ = false := fun t => (t.row hv).free i
                  obtain ⟨x, hx⟩ : ∃ x, Sha.rF Sha.k32 (Sha.grow Sha.k32 (Sha.words Sha.k32 bl) 48) s 64 i = x := ⟨_, rfl⟩
                  rw [hx] at r0
                  have HX := Lib.hid hx
                  have HV := Lib.hid hv
                  have HB4 := Lib.hid hbel4
                  clear hx hv hbel4
                  go_wp2_with fail
                  refine wp_region_fam_tail 8 (by kernel_rfl) (by kernel_rfl) Grow.val (Grow.start wr) ?_
                  simp only [List.take_succ_cons, List.take_zero, List.drop_succ_cons, List.drop_zero]
                  repeat go_big_quiet_step (fail)
                  refine wpQuiet_nil ?_
                  intro t
                  go_wp2_with fail
                  go_roundw
                  case rel =>
                    refine ⟨i + 1, by omega, by go_num, ?_, (HB4.out.trans (t.below.mono (Nat.le_of_lt HV.out.lt))).setCell (p := ⟨Bv, i, none⟩) (Nat.le_refl _) _⟩
                    have e : (((x : Nat) + (sf i : Nat) : Int) % 4294967296) = ((Sha.next Sha.k32 s bl).getD i 0 : Nat) := by
                      rw [Sha.next_getD _ _ _ _ hlt, ← HSF.out i hlt]
                      have e1 : Sha.rF Sha.k32 (Sha.grow Sha.k32 (Sha.words Sha.k32 bl) (Sha.k32.keys.length - 16)) s Sha.k32.keys.length i = x := HX.out
                      rw [e1]
                      simp [Sha.add, Sha.k32]
                    rw [e]
                    refine ((t.row HV.out).set (by omega) _).congr fun j hj => ?_
                    by_cases h1 : j = i
                    · subst h1; rw [if_pos rfl, if_pos (by omega)]
                    · rw [if_neg h1]
                      by_cases h2 : j < i
                      · rw [if_pos h2, if_pos (by omega)]
                      · rw [if_neg h2, if_neg (by omega)]
                  case measure => simp [intOf]; omega
                · obtain rfl : i = 8 := by omega
                  clear hlt hi
                  have hv := hv.congr (g := fun j => (Sha.next Sha.k32 s bl).getD j 0) fun j hj => by rw [if_pos hj]
                  have hvr : Row wr (w.heap.size + 1 + 1) 245 .u32 8 (fun _ => 0) := (H2R.out.below hbel (by omega)).below hbel4 (by omega)
                  go_wp2_with (first | (refine wpList_load_Row rfl 245 _ rfl Bv rfl hv Tryz.underlying245 (by kernel_rfl) ?_) | (refine wpList_store_Row rfl 245 _ _ rfl (w.heap.size + 1 + 1) (T := 245) rfl rfl hvr (by kernel_rfl) ?_; intro w6 hv6 hg6 hs6))
                  refine bodyPost_ret (v := .agg (rowOf .u32 8 fun j => (Sha.next Sha.k32 s bl).getD j 0).toArray) (results_cell_row rfl _ _ (w.heap.size + 1 + 1) 245 _ (0, 0) _ rfl hv6.heap Tryz.underlying245 rfl (by rw [List.size_toArray, length_rowOf]; kernel_rfl)) rfl ⟨rfl, ?_⟩
                  exact ((h4.trans (hbel.mono (by omega))).trans (hbel4.mono (by omega))).trans (grown_below hg6 (by omega) (by have := hv.lt; omega))
end Go.Proofs.YtilpbjcbffbjeaaGreatDoor
