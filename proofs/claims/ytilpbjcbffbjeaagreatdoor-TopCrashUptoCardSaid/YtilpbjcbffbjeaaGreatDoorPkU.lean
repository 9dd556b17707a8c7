/- The walks of keys32, keys64, kind32, kind64.
   The walk of told of 32 bits.
   The walk of Write at a hash of 32 bits: what is written stands behind all that was.
   The walks of New, Size, Clone. -/
import Derived.Test.YtilpbjcbffbjeaaGreatDoorHNext32
import Derived.Test.YtilpbjcbffbjeaaGreatDoorPkA
import Derived.Test.YtilpbjcbffbjeaaGreatDoorPkT
namespace Go.Proofs.YtilpbjcbffbjeaaGreatDoor
set_option linter.unusedVariables false
open Go.RowKit
def kf32 (j : Nat) : Nat := Sha.keys32.getD j 0
def kf64 (j : Nat) : Nat := Sha.keys64.getD j 0
set_option maxRecDepth 100000 in
set_option maxHeartbeats 400000 in
theorem keysW32 (w : World) : Calls Tryz.prog 152 #[] w fun e w' => e = .returned (.slice (some ⟨w.heap.size, 0, none⟩) 64 64) ∧ w' = w.alloc (.cells (rowOf .u32 64 kf32).toArray 237) := by
  go_enter Tryz.func152, Tryz.ntmps152
  go_wp2_with (refine wpList_run rfl (.slice (some ⟨w.heap.size, 0, none⟩) 64 64) (w.alloc (.cells (rowOf .u32 64 kf32).toArray 237)) (by kernel_rfl) ?_)
  go_ret
  exact ⟨rfl, rfl⟩
set_option maxRecDepth 100000 in
set_option maxHeartbeats 400000 in
theorem kindW32 (w : World) : Calls Tryz.prog 150 #[] w fun e w' => e = .returned (.agg #[.int .i64 32, .int .i64 7, .int .i64 18, .int .i64 3, .int .i64 17, .int .i64 19, .int .i64 10, .int .i64 6, .int .i64 11, .int .i64 25, .int .i64 2, .int .i64 13, .int .i64 22, .int .i64 64, .int .i64 32, .int .i64 8]) ∧ Below w.heap.size w w' := by
  go_enter Tryz.func150, Tryz.ntmps150
  go_wp2_with (first | (with_reducible refine wpList_pure (o := ⟨some 1, _, _, _, _, _⟩) rfl (.agg #[.int .i64 7, .int .i64 18, .int .i64 3]) (fun _ => by kernel_rfl) ?_) | (with_reducible refine wpList_pure (o := ⟨some 2, _, _, _, _, _⟩) rfl (.agg #[.int .i64 17, .int .i64 19, .int .i64 10]) (fun _ => by kernel_rfl) ?_) | (with_reducible refine wpList_pure (o := ⟨some 3, _, _, _, _, _⟩) rfl (.agg #[.int .i64 6, .int .i64 11, .int .i64 25]) (fun _ => by kernel_rfl) ?_) | (with_reducible refine wpList_pure (o := ⟨some 4, _, _, _, _, _⟩) rfl (.agg #[.int .i64 2, .int .i64 13, .int .i64 22]) (fun _ => by kernel_rfl) ?_) | (with_reducible refine wpList_pure (o := ⟨some 5, _, _, _, _, _⟩) rfl (.agg #[.int .i64 32, .int .i64 7, .int .i64 18, .int .i64 3, .int .i64 17, .int .i64 19, .int .i64 10, .int .i64 6, .int .i64 11, .int .i64 25, .int .i64 2, .int .i64 13, .int .i64 22, .int .i64 64, .int .i64 32, .int .i64 8]) (fun _ => by kernel_rfl) ?_) | (refine wpList_store_blk rfl 243 _ _ rfl w.heap.size 0 #[.int .i64 32, .int .i64 7, .int .i64 18, .int .i64 3, .int .i64 17, .int .i64 19, .int .i64 10, .int .i64 6, .int .i64 11, .int .i64 25, .int .i64 2, .int .i64 13, .int .i64 22, .int .i64 64, .int .i64 32, .int .i64 8] rfl rfl #[.int .i64 0, .int .i64 0, .int .i64 0, .int .i64 0, .int .i64 0, .int .i64 0, .int .i64 0, .int .i64 0, .int .i64 0, .int .i64 0, .int .i64 0, .int .i64 0, .int .i64 0, .int .i64 0, .int .i64 0, .int .i64 0] 243 (heap_at rfl) (by decide) (by kernel_rfl) (by simp [Value.oneCell']) ?_; intro w1 h1 h2 h3))
  refine bodyPost_ret (v := .agg #[.int .i64 32, .int .i64 7, .int .i64 18, .int .i64 3, .int .i64 17, .int .i64 19, .int .i64 10, .int .i64 6, .int .i64 11, .int .i64 25, .int .i64 2, .int .i64 13, .int .i64 22, .int .i64 64, .int .i64 32, .int .i64 8]) (results_cell_row rfl _ _ w.heap.size 243 _ (0, 0) _ rfl h1 Tryz.underlying243 rfl (by kernel_rfl)) rfl ⟨rfl, ?_⟩
  exact ((Below.refl _ _).alloc (Nat.le_refl _) _).trans (grown_below h2 (Nat.le_refl _) (by simp))
set_option maxRecDepth 100000 in
set_option maxHeartbeats 400000 in
theorem keysW64 (w : World) : Calls Tryz.prog 153 #[] w fun e w' => e = .returned (.slice (some ⟨w.heap.size, 0, none⟩) 80 80) ∧ w' = w.alloc (.cells (rowOf .u64 80 kf64).toArray 199) := by
  go_enter Tryz.func153, Tryz.ntmps153
  go_wp2_with (refine wpList_run rfl (.slice (some ⟨w.heap.size, 0, none⟩) 80 80) (w.alloc (.cells (rowOf .u64 80 kf64).toArray 199)) (by kernel_rfl) ?_)
  go_ret
  exact ⟨rfl, rfl⟩
set_option maxRecDepth 100000 in
set_option maxHeartbeats 400000 in
theorem kindW64 (w : World) : Calls Tryz.prog 151 #[] w fun e w' => e = .returned (.agg #[.int .i64 64, .int .i64 1, .int .i64 8, .int .i64 7, .int .i64 19, .int .i64 61, .int .i64 6, .int .i64 14, .int .i64 18, .int .i64 41, .int .i64 28, .int .i64 34, .int .i64 39, .int .i64 128, .int .i64 48, .int .i64 16]) ∧ Below w.heap.size w w' := by
  go_enter Tryz.func151, Tryz.ntmps151
  go_wp2_with (first | (with_reducible refine wpList_pure (o := ⟨some 1, _, _, _, _, _⟩) rfl (.agg #[.int .i64 1, .int .i64 8, .int .i64 7]) (fun _ => by kernel_rfl) ?_) | (with_reducible refine wpList_pure (o := ⟨some 2, _, _, _, _, _⟩) rfl (.agg #[.int .i64 19, .int .i64 61, .int .i64 6]) (fun _ => by kernel_rfl) ?_) | (with_reducible refine wpList_pure (o := ⟨some 3, _, _, _, _, _⟩) rfl (.agg #[.int .i64 14, .int .i64 18, .int .i64 41]) (fun _ => by kernel_rfl) ?_) | (with_reducible refine wpList_pure (o := ⟨some 4, _, _, _, _, _⟩) rfl (.agg #[.int .i64 28, .int .i64 34, .int .i64 39]) (fun _ => by kernel_rfl) ?_) | (with_reducible refine wpList_pure (o := ⟨some 5, _, _, _, _, _⟩) rfl (.agg #[.int .i64 64, .int .i64 1, .int .i64 8, .int .i64 7, .int .i64 19, .int .i64 61, .int .i64 6, .int .i64 14, .int .i64 18, .int .i64 41, .int .i64 28, .int .i64 34, .int .i64 39, .int .i64 128, .int .i64 48, .int .i64 16]) (fun _ => by kernel_rfl) ?_) | (refine wpList_store_blk rfl 243 _ _ rfl w.heap.size 0 #[.int .i64 64, .int .i64 1, .int .i64 8, .int .i64 7, .int .i64 19, .int .i64 61, .int .i64 6, .int .i64 14, .int .i64 18, .int .i64 41, .int .i64 28, .int .i64 34, .int .i64 39, .int .i64 128, .int .i64 48, .int .i64 16] rfl rfl #[.int .i64 0, .int .i64 0, .int .i64 0, .int .i64 0, .int .i64 0, .int .i64 0, .int .i64 0, .int .i64 0, .int .i64 0, .int .i64 0, .int .i64 0, .int .i64 0, .int .i64 0, .int .i64 0, .int .i64 0, .int .i64 0] 243 (heap_at rfl) (by decide) (by kernel_rfl) (by simp [Value.oneCell']) ?_; intro w1 h1 h2 h3))
  refine bodyPost_ret (v := .agg #[.int .i64 64, .int .i64 1, .int .i64 8, .int .i64 7, .int .i64 19, .int .i64 61, .int .i64 6, .int .i64 14, .int .i64 18, .int .i64 41, .int .i64 28, .int .i64 34, .int .i64 39, .int .i64 128, .int .i64 48, .int .i64 16]) (results_cell_row rfl _ _ w.heap.size 243 _ (0, 0) _ rfl h1 Tryz.underlying243 rfl (by kernel_rfl)) rfl ⟨rfl, ?_⟩
  exact ((Below.refl _ _).alloc (Nat.le_refl _) _).trans (grown_below h2 (Nat.le_refl _) (by simp))
end Go.Proofs.YtilpbjcbffbjeaaGreatDoor
namespace Go.Proofs.YtilpbjcbffbjeaaGreatDoor
set_option linter.unusedVariables false
open Go.RowKit
theorem info5 : (Tryz.prog.info? 5).map (fun i => (i.zero, i.size, i.bytes)) = some (some (.int .u8 0), 1, 1) := by kernel_rfl
/-- the bytes of the first i numbers -/
def tolds (w : Nat) (sf : Nat → Nat) (i : Nat) : List Nat := (List.range i).flatMap fun j => Sha.bytesOf w (sf j)
theorem tolds_succ (w : Nat) (sf : Nat → Nat) (i : Nat) : tolds w sf (i + 1) = tolds w sf i ++ Sha.bytesOf w (sf i) := by simp [tolds, List.range_succ]
theorem length_tolds (w : Nat) (sf : Nat → Nat) (i : Nat) : (tolds w sf i).length = i * (w / 8) := by
  induction i with
  | zero => simp [tolds]
  | succ i ih => rw [tolds_succ, List.length_append, ih]; simp [Sha.bytesOf, Nat.add_mul]
theorem bytesOf_take (w x m : Nat) (h : m < w / 8) : (Sha.bytesOf w x).take (m + 1) = (Sha.bytesOf w x).take m ++ [x / 2 ^ (w - 8 - 8 * m) % 256] := by
  rw [List.take_succ_eq_append_getElem (by simpa [Sha.bytesOf] using h)]
  simp [Sha.bytesOf]
theorem told_eq (k : Sha.Kind) (s : List Nat) (sf : Nat → Nat) (hs : s.length = 8) (hsf : ∀ j, j < 8 → sf j = s.getD j 0) : (tolds k.w sf 8).take k.size = Sha.told k s := by
  unfold Sha.told tolds
  congr 1
  have : s = (List.range 8).map sf := by
    refine List.ext_getElem? fun j => ?_
    by_cases hj : j < 8
    · simp [hj, hsf, hs]
    · rw [List.getElem?_eq_none (by omega), List.getElem?_eq_none (by simp; omega)]
  rw [this, List.flatMap_map]

theorem run_index_Row {P : Program} (ty e : TypeId) {k k' : IntKind} {N : Nat} {f : Nat → Nat} (hu : P.underlying ty = some (.array N e)) (hd : P.underlying e = some (.int k')) (hi : (P.info? e).map (·.size) = some 1) {i : Nat} (h : i < N) (w : World) :
    (Instr.index ty (.agg (rowOf k N f).toArray) (.int .i64 (i : Int))).run P w = .ok (.int k (f i : Nat)) w := by
  cases hq : P.info? e with
  | none => simp [hq] at hi
  | some i0 =>
    have h1 : i0.size = 1 := by simpa [hq] using hi
    have hg : (rowOf k N f)[i]? = some (.int k (f i : Nat)) := getElem?_rowOf k N f i h
    simp [Instr.index, asIntOf, run_underlying hu, run_underlying hd, sizeOf, typeInfo, hq, h1, h, part, isAgg, hg]

set_option maxRecDepth 100000 in
set_option maxHeartbeats 400000 in
theorem told32 (sf : Nat → Nat) (s : List Nat) (hs8 : s.length = 8) (hsf : ∀ j, j < 8 → sf j = s.getD j 0) (w : World) :
    Calls Tryz.prog 156 #[.agg (rowOf .u32 8 sf).toArray, .agg #[.int .i64 32, .int .i64 7, .int .i64 18, .int .i64 3, .int .i64 17, .int .i64 19, .int .i64 10, .int .i64 6, .int .i64 11, .int .i64 25, .int .i64 2, .int .i64 13, .int .i64 22, .int .i64 64, .int .i64 32, .int .i64 8]] w fun e w' =>
      e = .returned (.string (strOf (Sha.told Sha.k32 s))) ∧ Below w.heap.size w w' := by
  have HS8 := Lib.hid hs8
  have HSF := Lib.hid hsf
  clear hs8 hsf
  have hbs : Row ((w.alloc (.cells (rowOf .u32 8 sf).toArray 245)).alloc (.cells #[.int .i64 32, .int .i64 7, .int .i64 18, .int .i64 3, .int .i64 17, .int .i64 19, .int .i64 10, .int .i64 6, .int .i64 11, .int .i64 25, .int .i64 2, .int .i64 13, .int .i64 22, .int .i64 64, .int .i64 32, .int .i64 8] 243)) w.heap.size 245 .u32 8 sf :=
    Row.of (Eq.trans (heap_lt (by simp)) (heap_at rfl))
  go_enter Tryz.func156, Tryz.ntmps156
  go_wp2_with (refine wpList_load_Row rfl 245 _ rfl w.heap.size rfl hbs Tryz.underlying245 (by kernel_rfl) ?_)
  generalize hW : ((w.alloc (Obj.cells (rowOf IntKind.u32 8 sf).toArray 245)).alloc _) = W
  have H : Below w.heap.size w W ∧ W.heap.size = w.heap.size + 2 ∧ W.cell? ⟨w.heap.size + 1, 0, none⟩ = some (.int .i64 32) ∧ W.cell? ⟨w.heap.size + 1, 14, none⟩ = some (.int .i64 32) := by
    subst hW
    exact ⟨((Below.refl _ _).alloc (Nat.le_refl _) _).alloc (by simp) _, by simp, by go_simp, by go_simp⟩
  obtain ⟨hb0, hsz, k0, k14⟩ := H
  have HSZ := Lib.hid hsz
  have HK0 := Lib.hid k0
  have HK14 := Lib.hid k14
  have HB0 := Lib.hid hb0
  clear hW hbs hsz k0 k14 hb0
  go_loopw [5, 10] (fun v i wr => ∃ n : Nat, n ≤ 8 ∧ i = .int .i64 n ∧ Owns wr (w.heap.size + 2) 5 v (tolds 32 sf n) ∧ Below (w.heap.size + 2) W wr) (fun _ i _ => 8 - (intOf i).toNat)
  case atStart => exact ⟨0, by omega, rfl, Owns.nil _ _ _, Below.refl _ _⟩
  case round =>
    obtain ⟨n, hn, rfl, hown, hbel⟩ := hrel
    have c0 : wr.cell? ⟨w.heap.size + 1, 0, none⟩ = some (.int .i64 32) := (hbel.cell (by simp)).trans HK0.out
    by_cases hlt : n < 8
    · obtain ⟨x, hx⟩ : ∃ x, sf n = x := ⟨_, rfl⟩
      have gx : ∀ w, (Instr.index 245 (.agg (rowOf .u32 8 sf).toArray) (.int .i64 (n : Int))).run Tryz.prog w = .ok (.int .u32 (x : Nat)) w := fun w => by
        rw [← hx]; exact run_index_Row 245 237 Tryz.underlying245 Tryz.underlying237 (by kernel_rfl) hlt w
      have hbt : decide ((n : Int) < 8) = true := by simp; omega
      have HX := Lib.hid hx
      have HOWN := Lib.hid hown
      clear hx hown
      go_wp2_with fail
      obtain ⟨wo, rfl⟩ : ∃ wo : World, wo = wr := ⟨_, rfl⟩
      go_loopw [5, 8] (fun v p wr => ∃ m : Nat, m ≤ 4 ∧ (∃ q : Int, Hid (q = 24 - 8 * (m : Int)) ∧ p = .int .i64 q) ∧ Owns wr (w.heap.size + 2) 5 v (tolds 32 sf n ++ (Sha.bytesOf 32 x).take m) ∧ Below (w.heap.size + 2) W wr) (fun _ p _ => (intOf p + 8).toNat)
      case atStart => exact ⟨0, by omega, ⟨24, by unfold Hid; omega, rfl⟩, by simpa using HOWN.out, hbel⟩
      case round =>
        obtain ⟨m, hm, ⟨q, hq, rfl⟩, hown, hbel⟩ := hrel
        have hszr : w.heap.size + 2 ≤ wr.heap.size := by have := hbel.size; have := HSZ.out; omega
        have HM := Lib.hid hm
        clear hm
        by_cases hlt2 : m < 4
        · have q0 : 0 ≤ q := by have := hq.out; omega
          have q1 : q ≤ 24 := by have := hq.out; omega
          have hsl : (tolds 32 sf n ++ (Sha.bytesOf 32 x).take m).length + 1 ≤ 140737488355328 := by
            rw [List.length_append, length_tolds]; have := List.length_take_le m (Sha.bytesOf 32 x); omega
          have hvb := fun k hk => hown.block (k := k) hk
          clear hlt2
          go_wp2_with (at_builtin; refine wpList_append_bytes rfl _ _ 126 rfl Tryz.underlying126 info5 rfl (hown.alloc _) ⟨wr.heap.size, 0, none⟩ 1 1 [x / 2 ^ q.toNat % 256] rfl rfl ?c1 hsl ?c2 ?_)
          case c1 => intro j hj; obtain rfl : j = 0 := by omega
                     simp [Addr.add]
          case c2 => simp; omega
          intro v' w1 hown' hgrow _
          go_wp2_with fail
          go_roundw
          case rel =>
            have hq' := hq.out
            refine ⟨m + 1, by have := HM.out; omega, ⟨_, ?_, rfl⟩, ?_, ?_⟩
            · show _ = _
              push_cast
              omega
            · rw [bytesOf_take 32 x m (by omega)]
              have e : q.toNat = 32 - 8 - 8 * m := by omega
              rw [← e]; exact hown'
            · refine ((hbel.alloc (by omega) _).grown hgrow (by simp; omega) (fun k hk => (hvb k hk).1))
          case measure => simp [intOf]; omega
        · have hm4 : m = 4 := by have := HM.out; omega
          have q0 : q = -8 := by have := hq.out; omega
          have e := tolds_succ 32 sf n
          have HE : Hid (Owns wr (w.heap.size + 2) 5 u5 (tolds 32 sf (n + 1))) := by
            show Owns wr (w.heap.size + 2) 5 u5 (tolds 32 sf (n + 1))
            rw [e, HX.out]
            have e2 : (Sha.bytesOf 32 x).take m = Sha.bytesOf 32 x := by rw [hm4]; exact List.take_of_length_le (by simp [Sha.bytesOf])
            rw [e2] at hown
            exact hown
          subst q0
          clear hown hm4 hlt2 e
          go_wp2_with fail
          go_roundw
          case rel => exact ⟨n + 1, by omega, by go_num, HE.out, hbel⟩
          case measure => simp [intOf]; omega
    · obtain rfl : n = 8 := by omega
      have c14 : wr.cell? ⟨w.heap.size + 1, 14, none⟩ = some (.int .i64 32) := (hbel.cell (by simp)).trans HK14.out
      have hl : (tolds 32 sf 8).length = 32 := by rw [length_tolds]
      obtain ⟨g, cap, hv, hg, hcap, hcell⟩ := hown.form (by omega)
      subst hv
      rw [hl] at hcap hcell ⊢
      have HC := Lib.hid hcell
      have HL := Lib.hid hl
      have hcap' : (32 : Int) ≤ (cap : Int) := by omega
      clear hlt hn hown hcell hl
      go_wp2_with (with_reducible refine wpList_bytes_string (o := ⟨some 32, _, _, _, _, _⟩) rfl 126 9 _ rfl Tryz.underlying126 Tryz.underlying5 Tryz.underlying9 g 0 32 cap ?hx ((tolds 32 sf 8).take 32) ?hl ?hc ?_)
      case hx => rfl
      case hl => rw [List.length_take, HL.out]; rfl
      case hc =>
        intro j hj
        rw [Nat.zero_add, HC.out j (by omega), List.getD_eq_getElem?_getD, List.getD_eq_getElem?_getD, List.getElem?_take, if_pos hj]
      go_ret
      have e : (tolds 32 sf 8).take 32 = Sha.told Sha.k32 s := told_eq Sha.k32 s sf HS8.out HSF.out
      refine ⟨?_, HB0.out.trans (hbel.mono (by omega))⟩
      rw [← e]
      rfl
set_option maxRecDepth 100000 in
set_option maxHeartbeats 400000 in
theorem told64 (sf : Nat → Nat) (s : List Nat) (hs8 : s.length = 8) (hsf : ∀ j, j < 8 → sf j = s.getD j 0) (w : World) :
    Calls Tryz.prog 157 #[.agg (rowOf .u64 8 sf).toArray, .agg #[.int .i64 64, .int .i64 1, .int .i64 8, .int .i64 7, .int .i64 19, .int .i64 61, .int .i64 6, .int .i64 14, .int .i64 18, .int .i64 41, .int .i64 28, .int .i64 34, .int .i64 39, .int .i64 128, .int .i64 48, .int .i64 16]] w fun e w' =>
      e = .returned (.string (strOf (Sha.told Sha.k64 s))) ∧ Below w.heap.size w w' := by
  have HS8 := Lib.hid hs8
  have HSF := Lib.hid hsf
  clear hs8 hsf
  have hbs : Row ((w.alloc (.cells (rowOf .u64 8 sf).toArray 246)).alloc (.cells #[.int .i64 64, .int .i64 1, .int .i64 8, .int .i64 7, .int .i64 19, .int .i64 61, .int .i64 6, .int .i64 14, .int .i64 18, .int .i64 41, .int .i64 28, .int .i64 34, .int .i64 39, .int .i64 128, .int .i64 48, .int .i64 16] 243)) w.heap.size 246 .u64 8 sf :=
    Row.of (Eq.trans (heap_lt (by simp)) (heap_at rfl))
  go_enter Tryz.func157, Tryz.ntmps157
  go_wp2_with (refine wpList_load_Row rfl 246 _ rfl w.heap.size rfl hbs Tryz.underlying246 (by kernel_rfl) ?_)
  generalize hW : ((w.alloc (Obj.cells (rowOf IntKind.u64 8 sf).toArray 246)).alloc _) = W
  have H : Below w.heap.size w W ∧ W.heap.size = w.heap.size + 2 ∧ W.cell? ⟨w.heap.size + 1, 0, none⟩ = some (.int .i64 64) ∧ W.cell? ⟨w.heap.size + 1, 14, none⟩ = some (.int .i64 48) := by
    subst hW
    exact ⟨((Below.refl _ _).alloc (Nat.le_refl _) _).alloc (by simp) _, by simp, by go_simp, by go_simp⟩
  obtain ⟨hb0, hsz, k0, k14⟩ := H
  have HSZ := Lib.hid hsz
  have HK0 := Lib.hid k0
  have HK14 := Lib.hid k14
  have HB0 := Lib.hid hb0
  clear hW hbs hsz k0 k14 hb0
  go_loopw [5, 10] (fun v i wr => ∃ n : Nat, n ≤ 8 ∧ i = .int .i64 n ∧ Owns wr (w.heap.size + 2) 5 v (tolds 64 sf n) ∧ Below (w.heap.size + 2) W wr) (fun _ i _ => 8 - (intOf i).toNat)
  case atStart => exact ⟨0, by omega, rfl, Owns.nil _ _ _, Below.refl _ _⟩
  case round =>
    obtain ⟨n, hn, rfl, hown, hbel⟩ := hrel
    have c0 : wr.cell? ⟨w.heap.size + 1, 0, none⟩ = some (.int .i64 64) := (hbel.cell (by simp)).trans HK0.out
    by_cases hlt : n < 8
    · obtain ⟨x, hx⟩ : ∃ x, sf n = x := ⟨_, rfl⟩
      have gx : ∀ w, (Instr.index 246 (.agg (rowOf .u64 8 sf).toArray) (.int .i64 (n : Int))).run Tryz.prog w = .ok (.int .u64 (x : Nat)) w := fun w => by
        rw [← hx]; exact run_index_Row 246 199 Tryz.underlying246 Tryz.underlying199 (by kernel_rfl) hlt w
      have hbt : decide ((n : Int) < 8) = true := by simp; omega
      have HX := Lib.hid hx
      have HOWN := Lib.hid hown
      clear hx hown
      go_wp2_with fail
      obtain ⟨wo, rfl⟩ : ∃ wo : World, wo = wr := ⟨_, rfl⟩
      go_loopw [5, 8] (fun v p wr => ∃ m : Nat, m ≤ 8 ∧ (∃ q : Int, Hid (q = 56 - 8 * (m : Int)) ∧ p = .int .i64 q) ∧ Owns wr (w.heap.size + 2) 5 v (tolds 64 sf n ++ (Sha.bytesOf 64 x).take m) ∧ Below (w.heap.size + 2) W wr) (fun _ p _ => (intOf p + 8).toNat)
      case atStart => exact ⟨0, by omega, ⟨56, by unfold Hid; omega, rfl⟩, by simpa using HOWN.out, hbel⟩
      case round =>
        obtain ⟨m, hm, ⟨q, hq, rfl⟩, hown, hbel⟩ := hrel
        have hszr : w.heap.size + 2 ≤ wr.heap.size := by have := hbel.size; have := HSZ.out; omega
        have HM := Lib.hid hm
        clear hm
        by_cases hlt2 : m < 8
        · have q0 : 0 ≤ q := by have := hq.out; omega
          have q1 : q ≤ 56 := by have := hq.out; omega
          have hsl : (tolds 64 sf n ++ (Sha.bytesOf 64 x).take m).length + 1 ≤ 140737488355328 := by
            rw [List.length_append, length_tolds]; have := List.length_take_le m (Sha.bytesOf 64 x); omega
          have hvb := fun k hk => hown.block (k := k) hk
          clear hlt2
          go_wp2_with (at_builtin; refine wpList_append_bytes rfl _ _ 126 rfl Tryz.underlying126 info5 rfl (hown.alloc _) ⟨wr.heap.size, 0, none⟩ 1 1 [x / 2 ^ q.toNat % 256] rfl rfl ?c1 hsl ?c2 ?_)
          case c1 => intro j hj; obtain rfl : j = 0 := by omega
                     simp [Addr.add]
          case c2 => simp; omega
          intro v' w1 hown' hgrow _
          go_wp2_with fail
          go_roundw
          case rel =>
            have hq' := hq.out
            refine ⟨m + 1, by have := HM.out; omega, ⟨_, ?_, rfl⟩, ?_, ?_⟩
            · show _ = _
              push_cast
              omega
            · rw [bytesOf_take 64 x m (by omega)]
              have e : q.toNat = 64 - 8 - 8 * m := by omega
              rw [← e]; exact hown'
            · refine ((hbel.alloc (by omega) _).grown hgrow (by simp; omega) (fun k hk => (hvb k hk).1))
          case measure => simp [intOf]; omega
        · have hm4 : m = 8 := by have := HM.out; omega
          have q0 : q = -8 := by have := hq.out; omega
          have e := tolds_succ 64 sf n
          have HE : Hid (Owns wr (w.heap.size + 2) 5 u5 (tolds 64 sf (n + 1))) := by
            show Owns wr (w.heap.size + 2) 5 u5 (tolds 64 sf (n + 1))
            rw [e, HX.out]
            have e2 : (Sha.bytesOf 64 x).take m = Sha.bytesOf 64 x := by rw [hm4]; exact List.take_of_length_le (by simp [Sha.bytesOf])
            rw [e2] at hown
            exact hown
          subst q0
          clear hown hm4 hlt2 e
          go_wp2_with fail
          go_roundw
          case rel => exact ⟨n + 1, by omega, by go_num, HE.out, hbel⟩
          case measure => simp [intOf]; omega
    · obtain rfl : n = 8 := by omega
      have c14 : wr.cell? ⟨w.heap.size + 1, 14, none⟩ = some (.int .i64 48) := (hbel.cell (by simp)).trans HK14.out
      have hl : (tolds 64 sf 8).length = 64 := by rw [length_tolds]
      obtain ⟨g, cap, hv, hg, hcap, hcell⟩ := hown.form (by omega)
      subst hv
      rw [hl] at hcap hcell ⊢
      have HC := Lib.hid hcell
      have HL := Lib.hid hl
      have hlc : (64 : Int) ≤ (cap : Int) := by omega
      have hcap' : (48 : Int) ≤ (cap : Int) := by omega
      clear hlt hn hown hcell hl
      go_wp2_with (with_reducible refine wpList_bytes_string (o := ⟨some 32, _, _, _, _, _⟩) rfl 126 9 _ rfl Tryz.underlying126 Tryz.underlying5 Tryz.underlying9 g 0 48 cap ?hx ((tolds 64 sf 8).take 48) ?hl ?hc ?_)
      case hx => rfl
      case hl => rw [List.length_take, HL.out]; rfl
      case hc =>
        intro j hj
        rw [Nat.zero_add, HC.out j (by omega), List.getD_eq_getElem?_getD, List.getD_eq_getElem?_getD, List.getElem?_take, if_pos hj]
      go_ret
      have e : (tolds 64 sf 8).take 48 = Sha.told Sha.k64 s := told_eq Sha.k64 s sf HS8.out HSF.out
      refine ⟨?_, HB0.out.trans (hbel.mono (by omega))⟩
      rw [← e]
      rfl
end Go.Proofs.YtilpbjcbffbjeaaGreatDoor
namespace Go.Proofs.YtilpbjcbffbjeaaGreatDoor
set_option linter.unusedVariables false
open Go.RowKit
/-- What the object says of the bytes t. -/
structure HSt32 (t : List Nat) (v blk : Nat → Nat) : Prop where
  st : ∀ j, j < 8 → v j = (Sha.stateOf Sha.k32 t).getD j 0
  tail : ∀ j, j < t.length % 64 → blk j = t.getD (t.length - t.length % 64 + j) 0
  lt : ∀ c ∈ t, c < 256
def IsH32 (w : World) (B : Nat) (t : List Nat) : Prop := ∃ v32 v64 blk, HBlk w B kc32 v32 v64 blk t.length ∧ HSt32 t v32 blk
def strLen : Value → Nat
  | .string s => s.size
  | _ => 0
theorem HSt32.short {t p : List Nat} {v blk blk' : Nat → Nat} (h : HSt32 t v blk) (hp : t.length % 64 + p.length < 64) (hl : ∀ c ∈ p, c < 256)
    (hb : ∀ j, blk' j = if t.length % 64 ≤ j ∧ j < t.length % 64 + p.length then p.getD (j - t.length % 64) 0 else blk j) : HSt32 (t ++ p) v blk' := by
  have e : (t ++ p).length % 64 = t.length % 64 + p.length := by rw [List.length_append]; omega
  refine ⟨fun j hj => ?_, fun j hj => ?_, fun c hc => (List.mem_append.1 hc).elim (h.lt c) (hl c)⟩
  · rw [Sha.stateOf_short Sha.k32 t p hp]; exact h.st j hj
  · rw [e] at hj ⊢
    have e2 : (t ++ p).length - (t.length % 64 + p.length) = t.length - t.length % 64 := by rw [List.length_append]; omega
    rw [e2, hb]
    by_cases c : t.length % 64 ≤ j
    · rw [if_pos ⟨c, hj⟩, Sha.getD_right (by omega)]
      congr 1; omega
    · rw [if_neg (by omega), Sha.getD_left (by omega)]
      exact h.tail j (by omega)
theorem HSt32.full {t p : List Nat} {v blk blk' : Nat → Nat} (h : HSt32 t v blk) (hp : t.length % 64 + p.length = 64) (hl : ∀ c ∈ p, c < 256)
    (hb : ∀ j, blk' j = if t.length % 64 ≤ j ∧ j < t.length % 64 + p.length then p.getD (j - t.length % 64) 0 else blk j) :
    HSt32 (t ++ p) (fun j => (Sha.next Sha.k32 (Sha.stateOf Sha.k32 t) ((List.range 64).map blk')).getD j 0) blk' := by
  have e : (t ++ p).length % 64 = 0 := by rw [List.length_append]; omega
  refine ⟨fun j _ => ?_, fun j hj => (by omega), fun c hc => (List.mem_append.1 hc).elim (h.lt c) (hl c)⟩
  rw [Sha.stateOf_full Sha.k32 (by decide) t p hp]
  congr 2
  refine List.ext_getElem? fun i => ?_
  have hln : ((t ++ p).drop (t.length - t.length % Sha.k32.block)).length = 64 := by
    rw [List.length_drop, List.length_append]; show t.length + p.length - (t.length - t.length % 64) = 64; omega
  by_cases hi : i < 64
  · rw [List.getElem?_map, List.getElem?_range hi, List.getElem?_drop]
    show some (blk' i) = (t ++ p)[t.length - t.length % 64 + i]?
    rw [hb]
    by_cases c : t.length % 64 ≤ i
    · rw [if_pos (by omega), List.getElem?_append_right (by omega), show t.length - t.length % 64 + i - t.length = i - t.length % 64 by omega, List.getD_eq_getElem?_getD, List.getElem?_eq_getElem (by omega)]
      rfl
    · rw [if_neg (by omega), List.getElem?_append_left (by omega), h.tail i (by omega), List.getD_eq_getElem?_getD, List.getElem?_eq_getElem (by omega)]
      rfl
  · rw [List.getElem?_eq_none (by simp; omega), List.getElem?_eq_none (by omega)]

set_option maxRecDepth 100000 in
set_option maxHeartbeats 1000000 in
theorem write32 (B : Nat) (t : List Nat) (s : ByteArray) (w : World) (hH : IsH32 w B t) (hsz : t.length + s.size ≤ 4611686018427387904) :
    Calls Tryz.prog 139 #[.pointer (some ⟨B, 0, none⟩), .string s] w fun e w' => e = .returned (.tuple #[]) ∧ IsH32 w' B (t ++ bs s) ∧ w.grownBy w' (some B) := by
  have hBlt : B < w.heap.size := by obtain ⟨_, _, _, h, _⟩ := hH; exact h.lt
  go_enter Tryz.func139, Tryz.ntmps139
  go_wp2_with (first | (go_at_call 152; refine (keysW32 _).mono ?_; rintro e w' ⟨rfl, rfl⟩) | (go_at_call 153; refine (keysW64 _).mono ?_; rintro e w' ⟨rfl, rfl⟩))
  generalize hW : ((w.alloc (Obj.cells (rowOf IntKind.u32 64 kf32).toArray 237)).alloc (Obj.cells (rowOf IntKind.u64 80 kf64).toArray 199)) = W
  have H : Row W w.heap.size 237 .u32 64 kf32 ∧ w.grownBy W (some B) ∧ IsH32 W B t ∧ W.heap.size = w.heap.size + 2 := by
    subst hW
    refine ⟨Row.of (Eq.trans (heap_lt (by simp)) (heap_at rfl)), ⟨rfl, rfl, rfl, by simp; omega, fun k hk _ => ?_⟩, ?_, by simp⟩
    · exact Eq.trans (heap_lt (by simp; omega)) (heap_lt hk)
    · obtain ⟨v32, v64, blk, h1, h2⟩ := hH
      exact ⟨v32, v64, blk, h1.same (Eq.trans (heap_lt (by simp; omega)) (heap_lt hBlt)), h2⟩
  obtain ⟨hkr, hg0, hH0, hWs⟩ := H
  have HKR := Lib.hid hkr
  have HG0 := Lib.hid hg0
  have HWS := Lib.hid hWs
  have HSZ := Lib.hid hsz
  clear hW hH hkr hg0 hWs hsz
  go_loopw [1] (fun v wr => ∃ (s' : ByteArray) (p : List Nat), v = .string s' ∧ Hid (bs s = p ++ bs s') ∧ IsH32 wr B (t ++ p) ∧ W.grownBy wr (some B)) (fun v _ => strLen v)
  case atStart => exact ⟨s, [], rfl, by unfold Hid; simp, by simpa using hH0, ⟨rfl, rfl, rfl, Nat.le_refl _, fun _ _ _ => rfl⟩⟩
  case round =>
    obtain ⟨s', p, rfl, hs, hH, hg⟩ := hrel
    obtain ⟨v32, v64, blk, hblk, hst⟩ := hH
    obtain ⟨L, hL⟩ : ∃ L, (t ++ p).length = L := ⟨_, rfl⟩
    rw [hL] at hblk
    have hsl : L + s'.size ≤ 4611686018427387904 := by
      have h1 := congrArg List.length hs.out
      have h2 := HSZ.out
      rw [length_bs, List.length_append, length_bs] at h1
      rw [List.length_append] at hL
      omega
    have hszr : w.heap.size + 2 ≤ wr.heap.size := by have := hg.size; have := HWS.out; omega
    by_cases h0 : s'.size = 0
    · have hne : s'.toList.isEmpty = true := by
        rw [Lib.toList_data]
        have : s'.data.toList.length = 0 := by rw [← Lib.size_eq]; exact h0
        rw [List.length_eq_zero_iff.1 this]; rfl
      have hfin : Hid (p = bs s) := by
        show p = bs s
        have h1 : bs s' = [] := List.length_eq_zero_iff.1 (by rw [length_bs]; exact h0)
        rw [hs.out, h1, List.append_nil]
      clear h0
      go_wp2_with fail
      go_end0
      refine ⟨rfl, ?_, HG0.out.trans hg⟩
      rw [← hfin.out]
      exact ⟨v32, v64, blk, by rw [hL]; exact hblk, hst⟩
    · have q0 : ∀ t : Grow wr, t.val.cell? ⟨B, 160, none⟩ = some (.int .i64 (L : Nat)) := fun t => (hblk.grow t).scell
      have q1 : ∀ t : Grow wr, t.val.cell? ⟨B, 13, none⟩ = some (.int .i64 64) := fun t => (hblk.grow t).kcell rfl
      have hne : s'.toList.isEmpty = false := by
        cases hh : s'.toList with
        | nil => exact absurd (by rw [Lib.size_eq, ← Lib.toList_data, hh]; rfl) h0
        | cons _ _ => rfl
      have hsl : ∀ w, (Instr.sliceAt 247 (.pointer (some ⟨B, 32, none⟩)) (some (.int .i64 ((L : Int) % 64))) (some (.int .i64 64)) none).run Tryz.prog w = .ok (.slice (some ⟨B, 32 + L % 64, none⟩) (64 - L % 64) (128 - L % 64)) w := fun w =>
        run_sliceAt_array Tryz.underlying247 (by kernel_rfl) (L % 64) 64 (by omega) (by omega) (by omega) w
      have hr : L % 64 < 64 := Nat.mod_lt _ (by decide)
      obtain ⟨n, hn⟩ : ∃ n, Nat.min s'.size (64 - L % 64) = n := ⟨_, rfl⟩
      have hn1 : n ≤ s'.size := hn ▸ Nat.min_le_left _ _
      have hn2 : L % 64 + n ≤ 64 := by have : n ≤ 64 - L % 64 := hn ▸ Nat.min_le_right _ _; omega
      have hn3 : 0 < n := by have : n = min s'.size (64 - L % 64) := hn.symm; omega
      have HN := Lib.hid hn
      have HL := Lib.hid hL
      have HST := Lib.hid hst
      clear hn hL hst
      go_wp2_with fail
      refine wp_region_fam_tail 20 (by kernel_rfl) (by kernel_rfl) Grow.val (Grow.start wr) ?_
      simp only [List.take_succ_cons, List.take_zero, List.drop_succ_cons, List.drop_zero]
      repeat go_big_quiet_step (fail)
      refine wpQuiet_nil ?_
      intro tt
      refine wpList_copy_blk rfl _ _ 126 9 rfl Tryz.underlying126 (by kernel_rfl) (L % 64) (64 - L % 64) (128 - L % 64) s' rfl rfl (hblk.grow tt) n HN.out.symm (by omega) ?_
      intro w1 hb1 hg1 hs1
      have hgg : W.grownBy w1 (some B) := hg.trans (World.grownBy.trans ⟨tt.below.os, tt.below.tape, tt.below.output, tt.below.size, fun k hk _ => tt.below.block k hk⟩ hg1)
      have c160 := hb1.scell
      have f160 := hb1.free 160
      have HB1 := Lib.hid hb1
      have HGG := Lib.hid hgg
      have hn1' : (n : Int) ≤ (s'.size : Int) := by omega
      clear hb1 hgg hg1 hs1 q0 q1 hblk hg
      go_wp2_with fail
      have hsum : ((L : Int) + (n : Int)) = ((L + n : Nat) : Int) := by omega
      rw [hsum]
      generalize hw2 : w1.setCell ⟨B, 160, none⟩ (.int .i64 ((L + n : Nat) : Int)) = w2
      have hb2 : HBlk w2 B kc32 v32 v64 (fun j => if L % 64 ≤ j ∧ j < L % 64 + n then (bs s').getD (j - L % 64) 0 else blk j) (L + n) := by rw [← hw2]; exact HB1.out.setSize _
      have hgg2 : W.grownBy w2 (some B) := by
        rw [← hw2]
        exact World.grownBy.trans HGG.out ⟨rfl, rfl, rfl, by simp [World.setCell], fun k _ hk => Below.heap_setCell _ _ _ _ (fun e => hk (by rw [e]))⟩
      have hszs : (s'.extract n s'.size).size < s'.size := by rw [← length_bs, bs_from, List.length_drop, length_bs]; omega
      have hbs' : Hid (bs s = (p ++ (bs s').take n) ++ bs (s'.extract n s'.size)) := by
        show _ = _
        rw [hs.out, bs_from, List.append_assoc, List.take_append_drop]
      have htk : ((bs s').take n).length = n := by rw [List.length_take, length_bs]; omega
      have hpl : ∀ c ∈ (bs s').take n, c < 256 := fun c hc => bs_lt s' c (List.mem_of_mem_take hc)
      have hlen : (t ++ (p ++ (bs s').take n)).length = L + n := by rw [← List.append_assoc, List.length_append, HL.out, htk]
      have hblk' : ∀ j, (fun j => if L % 64 ≤ j ∧ j < L % 64 + n then (bs s').getD (j - L % 64) 0 else blk j) j = if (t ++ p).length % 64 ≤ j ∧ j < (t ++ p).length % 64 + ((bs s').take n).length then ((bs s').take n).getD (j - (t ++ p).length % 64) 0 else blk j := by
        intro j
        rw [HL.out, htk]
        by_cases c : L % 64 ≤ j ∧ j < L % 64 + n
        · simp only [if_pos c]
          rw [List.getD_eq_getElem?_getD, List.getD_eq_getElem?_getD, List.getElem?_take, if_pos (by omega)]
        · simp only [if_neg c]
      have HBL' := Lib.hid hblk'
      have HTK := Lib.hid htk
      have HPL := Lib.hid hpl
      have HLEN := Lib.hid hlen
      clear hw2 c160 f160 HB1 HGG hblk' htk hpl hlen hsum
      have q0 : ∀ t : Grow w2, t.val.cell? ⟨B, 160, none⟩ = some (.int .i64 ((L + n : Nat) : Int)) := fun t => (hb2.grow t).scell
      have q1 : ∀ t : Grow w2, t.val.cell? ⟨B, 13, none⟩ = some (.int .i64 64) := fun t => (hb2.grow t).kcell rfl
      refine wp_region_fam (by kernel_rfl) (by kernel_rfl) Grow.val (Grow.start w2) ?_
      repeat go_big_quiet_step (fail)
      refine wpQuiet_nil ?_
      intro tt
      by_cases hc : L % 64 + n < 64
      · have hgt : (0 : Int) < ((L + n : Nat) : Int) % 64 := by omega
        go_wp2_with fail
        go_roundw
        case rel =>
          refine ⟨_, p ++ (bs s').take n, rfl, hbs', ⟨v32, v64, (fun j => if L % 64 ≤ j ∧ j < L % 64 + n then (bs s').getD (j - L % 64) 0 else blk j), ?_, ?_⟩, ?_⟩
          · rw [HLEN.out]; exact hb2.grow tt
          · rw [← List.append_assoc]
            exact HST.out.short (by rw [HL.out, HTK.out]; exact hc) HPL.out HBL'.out
          · exact World.grownBy.trans hgg2 ⟨tt.below.os, tt.below.tape, tt.below.output, tt.below.size, fun k hk _ => tt.below.block k hk⟩
        case measure => exact hszs
      · have hfull : L % 64 + n = 64 := by omega
        have hgt : ((L + n : Nat) : Int) % 64 = 0 := by omega
        obtain ⟨nf, hnf⟩ : ∃ f : Nat → Nat, (fun j => (Sha.next Sha.k32 (Sha.stateOf Sha.k32 (t ++ p)) ((List.range 64).map (fun j => if L % 64 ≤ j ∧ j < L % 64 + n then (bs s').getD (j - L % 64) 0 else blk j))).getD j 0) = f := ⟨_, rfl⟩
        have hst2 : HSt32 (t ++ (p ++ (bs s').take n)) nf (fun j => if L % 64 ≤ j ∧ j < L % 64 + n then (bs s').getD (j - L % 64) 0 else blk j) := by
          rw [← List.append_assoc, ← hnf]
          exact HST.out.full (by rw [HL.out, HTK.out]; exact hfull) HPL.out HBL'.out
        generalize hbk : (fun j => if L % 64 ≤ j ∧ j < L % 64 + n then (bs s').getD (j - L % 64) 0 else blk j) = bk at *
        have hbl8 : ∀ c ∈ (List.range 64).map bk, c < 256 := by
          intro c hc
          obtain ⟨j, hj, rfl⟩ := List.mem_map.1 hc
          have hj := List.mem_range.1 hj
          rw [← hbk]
          show (if L % 64 ≤ j ∧ j < L % 64 + n then (bs s').getD (j - L % 64) 0 else blk j) < 256
          by_cases c : L % 64 ≤ j ∧ j < L % 64 + n
          · rw [if_pos c]
            have : j - L % 64 < (bs s').length := by rw [length_bs]; omega
            rw [List.getD_eq_getElem?_getD, List.getElem?_eq_getElem this]
            exact bs_lt s' _ (List.getElem_mem this)
          · rw [if_neg c, HST.out.tail j (by rw [HL.out]; omega)]
            have : (t ++ p).length - (t ++ p).length % 64 + j < (t ++ p).length := by rw [HL.out]; omega
            rw [List.getD_eq_getElem?_getD, List.getElem?_eq_getElem this]
            exact HST.out.lt _ (List.getElem_mem this)
        have hcall : Hid (∀ tt : Grow w2, Calls Tryz.prog 154 #[.agg #[.int .u32 (v32 0 : Nat), .int .u32 (v32 1 : Nat), .int .u32 (v32 2 : Nat), .int .u32 (v32 3 : Nat), .int .u32 (v32 4 : Nat), .int .u32 (v32 5 : Nat), .int .u32 (v32 6 : Nat), .int .u32 (v32 7 : Nat)],
            .slice (some ⟨B, 32, none⟩) 64 128, .slice (some ⟨w.heap.size, 0, none⟩) 64 64, .agg #[.int .i64 32, .int .i64 7, .int .i64 18, .int .i64 3, .int .i64 17, .int .i64 19, .int .i64 10, .int .i64 6, .int .i64 11, .int .i64 25, .int .i64 2, .int .i64 13, .int .i64 22, .int .i64 64, .int .i64 32, .int .i64 8]] tt.val fun e w' =>
            e = .returned (.agg (rowOf .u32 8 nf).toArray) ∧ Below tt.val.heap.size tt.val w') := by
          intro tt
          have h := next32 v32 (Sha.stateOf Sha.k32 (t ++ p)) HST.out.st B 32 128 w.heap.size ((List.range 64).map bk) tt.val (by omega) (by simp) hbl8 (Sha.stateOf_lt32 _)
            (fun j hj => by rw [(hb2.grow tt).bcell (by omega)]; simp [hj])
            (tt.row ((HKR.out.grown hgg2 (by intro e; injection e; omega)).congr fun _ _ => rfl))
          rw [hnf] at h
          exact h
        have HST2 := Lib.hid hst2
        have k0 := fun (t : Grow w2) => (hb2.grow t).kcell (j := 0) rfl
        have k1 := fun (t : Grow w2) => (hb2.grow t).kcell (j := 1) rfl
        have k2 := fun (t : Grow w2) => (hb2.grow t).kcell (j := 2) rfl
        have k3 := fun (t : Grow w2) => (hb2.grow t).kcell (j := 3) rfl
        have k4 := fun (t : Grow w2) => (hb2.grow t).kcell (j := 4) rfl
        have k5 := fun (t : Grow w2) => (hb2.grow t).kcell (j := 5) rfl
        have k6 := fun (t : Grow w2) => (hb2.grow t).kcell (j := 6) rfl
        have k7 := fun (t : Grow w2) => (hb2.grow t).kcell (j := 7) rfl
        have k8 := fun (t : Grow w2) => (hb2.grow t).kcell (j := 8) rfl
        have k9 := fun (t : Grow w2) => (hb2.grow t).kcell (j := 9) rfl
        have k10 := fun (t : Grow w2) => (hb2.grow t).kcell (j := 10) rfl
        have k11 := fun (t : Grow w2) => (hb2.grow t).kcell (j := 11) rfl
        have k12 := fun (t : Grow w2) => (hb2.grow t).kcell (j := 12) rfl
        have k14 := fun (t : Grow w2) => (hb2.grow t).kcell (j := 14) rfl
        have k15 := fun (t : Grow w2) => (hb2.grow t).kcell (j := 15) rfl
        have s0 := fun (t : Grow w2) => ((hb2.grow t).cell (16 + 0)).trans (hc_32 hb2.len (j := 0) (by omega))
        have s1 := fun (t : Grow w2) => ((hb2.grow t).cell (16 + 1)).trans (hc_32 hb2.len (j := 1) (by omega))
        have s2 := fun (t : Grow w2) => ((hb2.grow t).cell (16 + 2)).trans (hc_32 hb2.len (j := 2) (by omega))
        have s3 := fun (t : Grow w2) => ((hb2.grow t).cell (16 + 3)).trans (hc_32 hb2.len (j := 3) (by omega))
        have s4 := fun (t : Grow w2) => ((hb2.grow t).cell (16 + 4)).trans (hc_32 hb2.len (j := 4) (by omega))
        have s5 := fun (t : Grow w2) => ((hb2.grow t).cell (16 + 5)).trans (hc_32 hb2.len (j := 5) (by omega))
        have s6 := fun (t : Grow w2) => ((hb2.grow t).cell (16 + 6)).trans (hc_32 hb2.len (j := 6) (by omega))
        have s7 := fun (t : Grow w2) => ((hb2.grow t).cell (16 + 7)).trans (hc_32 hb2.len (j := 7) (by omega))
        simp only [Nat.reduceAdd] at s0 s1 s2 s3 s4 s5 s6 s7
        have HB2 := Lib.hid hb2
        have HGG2 := Lib.hid hgg2
        clear hst2 hbl8 hnf hbk hb2 hgg2 hc hfull
        go_wp2_with fail
        refine wp_region_fam_tail 17 (by kernel_rfl) (by kernel_rfl) Grow.val tt.again ?_
        simp only [List.take_succ_cons, List.take_zero, List.drop_succ_cons, List.drop_zero]
        repeat go_big_quiet_step ((refine Calls.fam_of (hcall.out _) (Grow.more _)))
        refine wpQuiet_nil ?_
        clear tt
        intro tt
        clear k0 k1 k2 k3 k4 k5 k6 k7 k8 k9 k10 k11 k12 k14 k15 s0 s1 s2 s3 s4 s5 s6 s7 q0 q1
        refine wpList_store_v32 rfl 245 _ _ rfl rfl rfl (HB2.out.grow tt) (by kernel_rfl) ?_
        intro w3 hb3 hg3 hs3
        simp only [Act.put]
        go_wp2_with fail
        go_roundw
        case rel =>
          refine ⟨_, p ++ (bs s').take n, rfl, hbs', ⟨nf, v64, bk, ?_, HST2.out⟩, ?_⟩
          · rw [HLEN.out]; exact hb3
          · exact World.grownBy.trans (World.grownBy.trans HGG2.out ⟨tt.below.os, tt.below.tape, tt.below.output, tt.below.size, fun k hk _ => tt.below.block k hk⟩) hg3
        case measure => exact hszs
end Go.Proofs.YtilpbjcbffbjeaaGreatDoor
namespace Go.Proofs.YtilpbjcbffbjeaaGreatDoor
set_option linter.unusedVariables false
open Go.RowKit
def i32 (j : Nat) : Nat := Sha.k32.init.getD j 0
def i64 (j : Nat) : Nat := Sha.k64.init.getD j 0
def zf (_ : Nat) : Nat := 0
/-- A new object of the kind: at block b. -/
def NewBlk (ks : List Value) (v32 v64 : Nat → Nat) (w : World) (e : Ending) (w' : World) : Prop :=
  ∃ b, e = .returned (.tuple #[.pointer (some ⟨b, 0, none⟩), .int .i64 0]) ∧ HBlk w' b ks v32 v64 zf 0 ∧ Below w.heap.size w w' ∧ w.heap.size ≤ b
theorem one_kc32 : ∀ v ∈ kc32, v.oneCell' = true := by decide
theorem one_kc64 : ∀ v ∈ kc64, v.oneCell' = true := by decide
set_option maxRecDepth 100000 in
set_option maxHeartbeats 400000 in
theorem new0 (w : World) : Calls Tryz.prog 138 #[.int .i64 0] w (NewBlk kc32 i32 zf w) := by
  go_enter Tryz.func138, Tryz.ntmps138
  go_wp2_with (first | (go_at_call 150; refine (kindW32 _).mono ?_; rintro e w1 ⟨rfl, hb⟩) | (with_reducible refine wpList_pure (o := ⟨some 8, _, _, _, _, _⟩) rfl (.agg (rowOf .u32 8 i32).toArray) (fun _ => by kernel_rfl) ?_) | (with_reducible refine wpList_pure (o := ⟨some 9, _, _, _, _, _⟩) rfl (.agg (hcells kc32 i32 zf zf 0).toArray) (fun _ => by kernel_rfl) ?_))
  go_ret2
  exact ⟨_, rfl, ⟨rfl, one_kc32, heap_at rfl⟩, hb.alloc hb.size _, hb.size⟩
set_option maxRecDepth 100000 in
set_option maxHeartbeats 400000 in
theorem new1 (w : World) : Calls Tryz.prog 138 #[.int .i64 1] w (NewBlk kc64 zf i64 w) := by
  go_enter Tryz.func138, Tryz.ntmps138
  go_wp2_with (first | (go_at_call 151; refine (kindW64 _).mono ?_; rintro e w1 ⟨rfl, hb⟩) | (with_reducible refine wpList_pure (o := ⟨some 14, _, _, _, _, _⟩) rfl (.agg (rowOf .u64 8 i64).toArray) (fun _ => by kernel_rfl) ?_) | (with_reducible refine wpList_pure (o := ⟨some 15, _, _, _, _, _⟩) rfl (.agg (hcells kc64 zf i64 zf 0).toArray) (fun _ => by kernel_rfl) ?_))
  go_ret2
  exact ⟨_, rfl, ⟨rfl, one_kc64, heap_at rfl⟩, hb.alloc hb.size _, hb.size⟩
set_option maxHeartbeats 400000 in
theorem newNo (k : Int) (h0 : k ≠ 0) (h1 : k ≠ 1) (w : World) : Calls Tryz.prog 138 #[.int .i64 k] w fun e w' => e = .returned (.tuple #[.pointer none, .int .i64 20]) ∧ w = w' := by
  have e0 : (k == 0) = false := by simp [h0]
  have e1 : (k == 1) = false := by simp [h1]
  go_enter Tryz.func138, Tryz.ntmps138
  go_wp2_with fail
  go_ret2
  exact ⟨rfl, rfl⟩
def zk : List Value := [.int .i64 0, .int .i64 0, .int .i64 0, .int .i64 0, .int .i64 0, .int .i64 0, .int .i64 0, .int .i64 0, .int .i64 0, .int .i64 0, .int .i64 0, .int .i64 0, .int .i64 0, .int .i64 0, .int .i64 0, .int .i64 0]
theorem one_hcells {ks : List Value} {v32 v64 blk : Nat → Nat} {size : Nat} (h : ∀ v ∈ ks, v.oneCell' = true) : ∀ v ∈ hcells ks v32 v64 blk size, v.oneCell' = true := by
  intro v hv
  unfold hcells at hv
  simp only [List.mem_append, List.mem_singleton] at hv
  rcases hv with hv | hv | hv | hv | rfl
  · exact h v hv
  · exact oneCell_nums .u32 _ v (by simpa [rowOf] using hv)
  · exact oneCell_nums .u64 _ v (by simpa [rowOf] using hv)
  · exact oneCell_nums .u8 _ v (by simpa [rowOf] using hv)
  · rfl
/-- What stands behind 'c := *h'. -/
theorem wpList_new_blk {P : Program} {ops : Array Oper} {rest : List Oper} {o : Oper} {a : Act} {w0 w : World} {Q : Exit → Act → World → Prop} {ks : List Value} {v32 v64 blk : Nat → Nat} {size : Nat} (hl : ks.length = 16) (h1 : ∀ v ∈ ks, v.oneCell' = true) (hgd : o.guard = none) (ty : TypeId) (x y : Operand) (ho : o.op = .store ty x y)
    (hx : a.eval x = .pointer (some ⟨w0.heap.size, 0, none⟩)) (hy : a.eval y = .agg (hcells ks v32 v64 blk size).toArray) (hw : w = w0.alloc (.cells (hcells zk zf zf zf 0).toArray 249)) (hi : (P.info? ty).map (·.size) = some 161)
    (h : ∀ w', HBlk w' w0.heap.size ks v32 v64 blk size → Below w0.heap.size w0 w' → w'.heap.size = w0.heap.size + 1 → wpList P ops Q rest (a.put o.dst undef) w') : wpList P ops Q (o :: rest) a w := by
  subst hw
  refine wpList_store_blk hgd ty x y ho w0.heap.size 0 _ hx hy _ 249 (heap_at rfl) (by simp only [List.size_toArray, length_hcells hl, length_hcells (show zk.length = 16 from rfl)]; omega) (by rw [List.size_toArray, length_hcells hl]; exact hi) (by simpa using one_hcells h1) ?_
  intro w' e1 e2 e3
  refine h w' ⟨hl, h1, ?_⟩ (((Below.refl _ _).alloc (Nat.le_refl _) _).trans (grown_below e2 (Nat.le_refl _) (by simp))) (by rw [e3]; simp)
  rw [e1]
  simp [length_hcells hl, length_hcells (show zk.length = 16 from rfl)]
end Go.Proofs.YtilpbjcbffbjeaaGreatDoor
