/- The walk of told of 32 bits. -/
import Derived.Test.YtilpbjcbffbjeaaGreatDoorHSmall
import Derived.Test.YtilpbjcbffbjeaaGreatDoorPkA
namespace Go.Proofs.YtilpbjcbffbjeaaGreatDoor
set_option linter.unusedVariables false
open Go.RowKit
theorem info5 : (Tryz.prog.info? 5).map (fun i => (i.zero, i.size, i.bytes)) = some (some (.int .u8 0), 1, 1) := by kernel_rfl
/-- the bytes of the first i numbers -/
def tolds (w : Nat) (sf : Nat → Nat) (i : Nat) : List Nat := (List.range i).flatMap fun j => Sha.bytesOf w (sf j)
theorem tolds_succ (w : Nat) (sf : Nat → Nat) (i : Nat) : tolds w sf (i + 1) = tolds w sf i ++ Sha.bytesOf w (sf i) := by simp [tolds, List.range_succ]
theorem length_tolds (w : Nat) (sf : Nat → Nat) (i : Nat) : (tolds w sf i).length = i * (w / 8) := by
  induction i with
  | zero => simp [tolds]
  | succ i ih => rw [tolds_succ, List.length_append, ih]; simp [Sha.bytesOf, Nat.add_mul]
theorem bytesOf_take (w x m : Nat) (h : m < w / 8) : (Sha.bytesOf w x).take (m + 1) = (Sha.bytesOf w x).take m ++ [x / 2 ^ (w - 8 - 8 * m) % 256] := by
  rw [List.take_succ_eq_append_getElem (by simpa [Sha.bytesOf] using h)]
  simp [Sha.bytesOf]
theorem told_eq (k : Sha.Kind) (s : List Nat) (sf : Nat → Nat) (hs : s.length = 8) (hsf : ∀ j, j < 8 → sf j = s.getD j 0) : (tolds k.w sf 8).take k.size = Sha.told k s := by
  unfold Sha.told tolds
  congr 1
  have : s = (List.range 8).map sf := by
    refine List.ext_getElem? fun j => ?_
    by_cases hj : j < 8
    · simp [hj, hsf, hs]
    · rw [List.getElem?_eq_none (by omega), List.getElem?_eq_none (by simp; omega)]
  rw [this, List.flatMap_map]

theorem run_index_Row {P : Program} (ty e : TypeId) {k k' : IntKind} {N : Nat} {f : Nat → Nat} (hu : P.underlying ty = some (.array N e)) (hd : P.underlying e = some (.int k')) (hi : (P.info? e).map (·.size) = some 1) {i : Nat} (h : i < N) (w : World) :
    (Instr.index ty (.agg (rowOf k N f).toArray) (.int .i64 (i : Int))).run P w = .ok (.int k (f i : Nat)) w := by
  cases hq : P.info? e with
  | none => simp [hq] at hi
  | some i0 =>
    have h1 : i0.size = 1 := by simpa [hq] using hi
    have hg : (rowOf k N f)[i]? = some (.int k (f i : Nat)) := getElem?_rowOf k N f i h
    simp [Instr.index, asIntOf, run_underlying hu, run_underlying hd, sizeOf, typeInfo, hq, h1, h, part, isAgg, hg]

set_option maxRecDepth 100000 in
set_option maxHeartbeats 400000 in
theorem told32 (sf : Nat → Nat) (s : List Nat) (hs8 : s.length = 8) (hsf : ∀ j, j < 8 → sf j = s.getD j 0) (w : World) :
    Calls Tryz.prog 156 #[.agg (rowOf .u32 8 sf).toArray, .agg #[.int .i64 32, .int .i64 7, .int .i64 18, .int .i64 3, .int .i64 17, .int .i64 19, .int .i64 10, .int .i64 6, .int .i64 11, .int .i64 25, .int .i64 2, .int .i64 13, .int .i64 22, .int .i64 64, .int .i64 32, .int .i64 8]] w fun e w' =>
      e = .returned (.string (strOf (Sha.told Sha.k32 s))) ∧ Below w.heap.size w w' := by
  have HS8 := Lib.hid hs8
  have HSF := Lib.hid hsf
  clear hs8 hsf
  have hbs : Row ((w.alloc (.cells (rowOf .u32 8 sf).toArray 245)).alloc (.cells #[.int .i64 32, .int .i64 7, .int .i64 18, .int .i64 3, .int .i64 17, .int .i64 19, .int .i64 10, .int .i64 6, .int .i64 11, .int .i64 25, .int .i64 2, .int .i64 13, .int .i64 22, .int .i64 64, .int .i64 32, .int .i64 8] 243)) w.heap.size 245 .u32 8 sf :=
    Row.of (Eq.trans (heap_lt (by simp)) (heap_at rfl))
  go_enter Tryz.func156, Tryz.ntmps156
  go_wp2_with (refine wpList_load_Row rfl 245 _ rfl w.heap.size rfl hbs Tryz.underlying245 (by kernel_rfl) ?_)
  generalize hW : ((w.alloc (Obj.cells (rowOf IntKind.u32 8 sf).toArray 245)).alloc _) = W
  have H : Below w.heap.size w W ∧ W.heap.size = w.heap.size + 2 ∧ W.cell? ⟨w.heap.size + 1, 0, none⟩ = some (.int .i64 32) ∧ W.cell? ⟨w.heap.size + 1, 14, none⟩ = some (.int .i64 32) := by
    subst hW
    exact ⟨((Below.refl _ _).alloc (Nat.le_refl _) _).alloc (by simp) _, by simp, by go_simp, by go_simp⟩
  obtain ⟨hb0, hsz, k0, k14⟩ := H
  have HSZ := Lib.hid hsz
  have HK0 := Lib.hid k0
  have HK14 := Lib.hid k14
  have HB0 := Lib.hid hb0
  clear hW hbs hsz k0 k14 hb0
  go_loopw [5, 10] (fun v i wr => ∃ n : Nat, n ≤ 8 ∧ i = .int .i64 n ∧ Owns wr (w.heap.size + 2) 5 v (tolds 32 sf n) ∧ Below (w.heap.size + 2) W wr) (fun _ i _ => 8 - (intOf i).toNat)
  case atStart => exact ⟨0, by omega, rfl, Owns.nil _ _ _, Below.refl _ _⟩
  case round =>
    obtain ⟨n, hn, rfl, hown, hbel⟩ := hrel
    have c0 : wr.cell? ⟨w.heap.size + 1, 0, none⟩ = some (.int .i64 32) := (hbel.cell (by simp)).trans HK0.out
    by_cases hlt : n < 8
    · obtain ⟨x, hx⟩ : ∃ x, sf n = x := ⟨_, rfl⟩
      have gx : ∀ w, (Instr.index 245 (.agg (rowOf .u32 8 sf).toArray) (.int .i64 (n : Int))).run Tryz.prog w = .ok (.int .u32 (x : Nat)) w := fun w => by
        rw [← hx]; exact run_index_Row 245 237 Tryz.underlying245 Tryz.underlying237 (by kernel_rfl) hlt w
      have hbt : decide ((n : Int) < 8) = true := by simp; omega
      have HX := Lib.hid hx
      have HOWN := Lib.hid hown
      clear hx hown
      go_wp2_with fail
      obtain ⟨wo, rfl⟩ : ∃ wo : World, wo = wr := ⟨_, rfl⟩
      go_loopw [5, 8] (fun v p wr => ∃ m : Nat, m ≤ 4 ∧ (∃ q : Int, Hid (q = 24 - 8 * (m : Int)) ∧ p = .int .i64 q) ∧ Owns wr (w.heap.size + 2) 5 v (tolds 32 sf n ++ (Sha.bytesOf 32 x).take m) ∧ Below (w.heap.size + 2) W wr) (fun _ p _ => (intOf p + 8).toNat)
      case atStart => exact ⟨0, by omega, ⟨24, by unfold Hid; omega, rfl⟩, by simpa using HOWN.out, hbel⟩
      case round =>
        obtain ⟨m, hm, ⟨q, hq, rfl⟩, hown, hbel⟩ := hrel
        have hszr : w.heap.size + 2 ≤ wr.heap.size := by have := hbel.size; have := HSZ.out; omega
        have HM := Lib.hid hm
        clear hm
        by_cases hlt2 : m < 4
        · have q0 : 0 ≤ q := by have := hq.out; omega
          have q1 : q ≤ 24 := by have := hq.out; omega
          have hsl : (tolds 32 sf n ++ (Sha.bytesOf 32 x).take m).length + 1 ≤ 140737488355328 := by
            rw [List.length_append, length_tolds]; have := List.length_take_le m (Sha.bytesOf 32 x); omega
          have hvb := fun k hk => hown.block (k := k) hk
          clear hlt2
          go_wp2_with (at_builtin; refine wpList_append_bytes rfl _ _ 126 rfl Tryz.underlying126 info5 rfl (hown.alloc _) ⟨wr.heap.size, 0, none⟩ 1 1 [x / 2 ^ q.toNat % 256] rfl rfl ?c1 hsl ?c2 ?_)
          case c1 => intro j hj; obtain rfl : j = 0 := by omega
                     simp [Addr.add]
          case c2 => simp; omega
          intro v' w1 hown' hgrow _
          go_wp2_with fail
          go_roundw
          case rel =>
            have hq' := hq.out
            refine ⟨m + 1, by have := HM.out; omega, ⟨_, ?_, rfl⟩, ?_, ?_⟩
            · show _ = _
              push_cast
              omega
            · rw [bytesOf_take 32 x m (by omega)]
              have e : q.toNat = 32 - 8 - 8 * m := by omega
              rw [← e]; exact hown'
            · refine ((hbel.alloc (by omega) _).grown hgrow (by simp; omega) (fun k hk => (hvb k hk).1))
          case measure => simp [intOf]; omega
        · have hm4 : m = 4 := by have := HM.out; omega
          have q0 : q = -8 := by have := hq.out; omega
          have e := tolds_succ 32 sf n
          have HE : Hid (Owns wr (w.heap.size + 2) 5 u5 (tolds 32 sf (n + 1))) := by
            show Owns wr (w.heap.size + 2) 5 u5 (tolds 32 sf (n + 1))
            rw [e, HX.out]
            have e2 : (Sha.bytesOf 32 x).take m = Sha.bytesOf 32 x := by rw [hm4]; exact List.take_of_length_le (by simp [Sha.bytesOf])
            rw [e2] at hown
            exact hown
          subst q0
          clear hown hm4 hlt2 e
          go_wp2_with fail
          go_roundw
          case rel => exact ⟨n + 1, by omega, by go_num, HE.out, hbel⟩
          case measure => simp [intOf]; omega
    · obtain rfl : n = 8 := by omega
      have c14 : wr.cell? ⟨w.heap.size + 1, 14, none⟩ = some (.int .i64 32) := (hbel.cell (by simp)).trans HK14.out
      have hl : (tolds 32 sf 8).length = 32 := by rw [length_tolds]
      obtain ⟨g, cap, hv, hg, hcap, hcell⟩ := hown.form (by omega)
      subst hv
      rw [hl] at hcap hcell ⊢
      have HC := Lib.hid hcell
      have HL := Lib.hid hl
      have hcap' : (32 : Int) ≤ (cap : Int) := by omega
      clear hlt hn hown hcell hl
      go_wp2_with (with_reducible refine wpList_bytes_string (o := ⟨some 32, _, _, _, _, _⟩) rfl 126 9 _ rfl Tryz.underlying126 Tryz.underlying5 Tryz.underlying9 g 0 32 cap ?hx ((tolds 32 sf 8).take 32) ?hl ?hc ?_)
      case hx => rfl
      case hl => rw [List.length_take, HL.out]; rfl
      case hc =>
        intro j hj
        rw [Nat.zero_add, HC.out j (by omega), List.getD_eq_getElem?_getD, List.getD_eq_getElem?_getD, List.getElem?_take, if_pos hj]
      go_ret
      have e : (tolds 32 sf 8).take 32 = Sha.told Sha.k32 s := told_eq Sha.k32 s sf HS8.out HSF.out
      refine ⟨?_, HB0.out.trans (hbel.mono (by omega))⟩
      rw [← e]
      rfl
set_option maxRecDepth 100000 in
set_option maxHeartbeats 400000 in
theorem told64 (sf : Nat → Nat) (s : List Nat) (hs8 : s.length = 8) (hsf : ∀ j, j < 8 → sf j = s.getD j 0) (w : World) :
    Calls Tryz.prog 157 #[.agg (rowOf .u64 8 sf).toArray, .agg #[.int .i64 64, .int .i64 1, .int .i64 8, .int .i64 7, .int .i64 19, .int .i64 61, .int .i64 6, .int .i64 14, .int .i64 18, .int .i64 41, .int .i64 28, .int .i64 34, .int .i64 39, .int .i64 128, .int .i64 48, .int .i64 16]] w fun e w' =>
      e = .returned (.string (strOf (Sha.told Sha.k64 s))) ∧ Below w.heap.size w w' := by
  have HS8 := Lib.hid hs8
  have HSF := Lib.hid hsf
  clear hs8 hsf
  have hbs : Row ((w.alloc (.cells (rowOf .u64 8 sf).toArray 246)).alloc (.cells #[.int .i64 64, .int .i64 1, .int .i64 8, .int .i64 7, .int .i64 19, .int .i64 61, .int .i64 6, .int .i64 14, .int .i64 18, .int .i64 41, .int .i64 28, .int .i64 34, .int .i64 39, .int .i64 128, .int .i64 48, .int .i64 16] 243)) w.heap.size 246 .u64 8 sf :=
    Row.of (Eq.trans (heap_lt (by simp)) (heap_at rfl))
  go_enter Tryz.func157, Tryz.ntmps157
  go_wp2_with (refine wpList_load_Row rfl 246 _ rfl w.heap.size rfl hbs Tryz.underlying246 (by kernel_rfl) ?_)
  generalize hW : ((w.alloc (Obj.cells (rowOf IntKind.u64 8 sf).toArray 246)).alloc _) = W
  have H : Below w.heap.size w W ∧ W.heap.size = w.heap.size + 2 ∧ W.cell? ⟨w.heap.size + 1, 0, none⟩ = some (.int .i64 64) ∧ W.cell? ⟨w.heap.size + 1, 14, none⟩ = some (.int .i64 48) := by
    subst hW
    exact ⟨((Below.refl _ _).alloc (Nat.le_refl _) _).alloc (by simp) _, by simp, by go_simp, by go_simp⟩
  obtain ⟨hb0, hsz, k0, k14⟩ := H
  have HSZ := Lib.hid hsz
  have HK0 := Lib.hid k0
  have HK14 := Lib.hid k14
  have HB0 := Lib.hid hb0
  clear hW hbs hsz k0 k14 hb0
  go_loopw [5, 10] (fun v i wr => ∃ n : Nat, n ≤ 8 ∧ i = .int .i64 n ∧ Owns wr (w.heap.size + 2) 5 v (tolds 64 sf n) ∧ Below (w.heap.size + 2) W wr) (fun _ i _ => 8 - (intOf i).toNat)
  case atStart => exact ⟨0, by omega, rfl, Owns.nil _ _ _, Below.refl _ _⟩
  case round =>
    obtain ⟨n, hn, rfl, hown, hbel⟩ := hrel
    have c0 : wr.cell? ⟨w.heap.size + 1, 0, none⟩ = some (.int .i64 64) := (hbel.cell (by simp)).trans HK0.out
    by_cases hlt : n < 8
    · obtain ⟨x, hx⟩ : ∃ x, sf n = x := ⟨_, rfl⟩
      have gx : ∀ w, (Instr.index 246 (.agg (rowOf .u64 8 sf).toArray) (.int .i64 (n : Int))).run Tryz.prog w = .ok (.int .u64 (x : Nat)) w := fun w => by
        rw [← hx]; exact run_index_Row 246 199 Tryz.underlying246 Tryz.underlying199 (by kernel_rfl) hlt w
      have hbt : decide ((n : Int) < 8) = true := by simp; omega
      have HX := Lib.hid hx
      have HOWN := Lib.hid hown
      clear hx hown
      go_wp2_with fail
      obtain ⟨wo, rfl⟩ : ∃ wo : World, wo = wr := ⟨_, rfl⟩
      go_loopw [5, 8] (fun v p wr => ∃ m : Nat, m ≤ 8 ∧ (∃ q : Int, Hid (q = 56 - 8 * (m : Int)) ∧ p = .int .i64 q) ∧ Owns wr (w.heap.size + 2) 5 v (tolds 64 sf n ++ (Sha.bytesOf 64 x).take m) ∧ Below (w.heap.size + 2) W wr) (fun _ p _ => (intOf p + 8).toNat)
      case atStart => exact ⟨0, by omega, ⟨56, by unfold Hid; omega, rfl⟩, by simpa using HOWN.out, hbel⟩
      case round =>
        obtain ⟨m, hm, ⟨q, hq, rfl⟩, hown, hbel⟩ := hrel
        have hszr : w.heap.size + 2 ≤ wr.heap.size := by have := hbel.size; have := HSZ.out; omega
        have HM := Lib.hid hm
        clear hm
        by_cases hlt2 : m < 8
        · have q0 : 0 ≤ q := by have := hq.out; omega
          have q1 : q ≤ 56 := by have := hq.out; omega
          have hsl : (tolds 64 sf n ++ (Sha.bytesOf 64 x).take m).length + 1 ≤ 140737488355328 := by
            rw [List.length_append, length_tolds]; have := List.length_take_le m (Sha.bytesOf 64 x); omega
          have hvb := fun k hk => hown.block (k := k) hk
          clear hlt2
          go_wp2_with (at_builtin; refine wpList_append_bytes rfl _ _ 126 rfl Tryz.underlying126 info5 rfl (hown.alloc _) ⟨wr.heap.size, 0, none⟩ 1 1 [x / 2 ^ q.toNat % 256] rfl rfl ?c1 hsl ?c2 ?_)
          case c1 => intro j hj; obtain rfl : j = 0 := by omega
                     simp [Addr.add]
          case c2 => simp; omega
          intro v' w1 hown' hgrow _
          go_wp2_with fail
          go_roundw
          case rel =>
            have hq' := hq.out
            refine ⟨m + 1, by have := HM.out; omega, ⟨_, ?_, rfl⟩, ?_, ?_⟩
            · show _ = _
              push_cast
              omega
            · rw [bytesOf_take 64 x m (by omega)]
              have e : q.toNat = 64 - 8 - 8 * m := by omega
              rw [← e]; exact hown'
            · refine ((hbel.alloc (by omega) _).grown hgrow (by simp; omega) (fun k hk => (hvb k hk).1))
          case measure => simp [intOf]; omega
        · have hm4 : m = 8 := by have := HM.out; omega
          have q0 : q = -8 := by have := hq.out; omega
          have e := tolds_succ 64 sf n
          have HE : Hid (Owns wr (w.heap.size + 2) 5 u5 (tolds 64 sf (n + 1))) := by
            show Owns wr (w.heap.size + 2) 5 u5 (tolds 64 sf (n + 1))
            rw [e, HX.out]
            have e2 : (Sha.bytesOf 64 x).take m = Sha.bytesOf 64 x := by rw [hm4]; exact List.take_of_length_le (by simp [Sha.bytesOf])
            rw [e2] at hown
            exact hown
          subst q0
          clear hown hm4 hlt2 e
          go_wp2_with fail
          go_roundw
          case rel => exact ⟨n + 1, by omega, by go_num, HE.out, hbel⟩
          case measure => simp [intOf]; omega
    · obtain rfl : n = 8 := by omega
      have c14 : wr.cell? ⟨w.heap.size + 1, 14, none⟩ = some (.int .i64 48) := (hbel.cell (by simp)).trans HK14.out
      have hl : (tolds 64 sf 8).length = 64 := by rw [length_tolds]
      obtain ⟨g, cap, hv, hg, hcap, hcell⟩ := hown.form (by omega)
      subst hv
      rw [hl] at hcap hcell ⊢
      have HC := Lib.hid hcell
      have HL := Lib.hid hl
      have hlc : (64 : Int) ≤ (cap : Int) := by omega
      have hcap' : (48 : Int) ≤ (cap : Int) := by omega
      clear hlt hn hown hcell hl
      go_wp2_with (with_reducible refine wpList_bytes_string (o := ⟨some 32, _, _, _, _, _⟩) rfl 126 9 _ rfl Tryz.underlying126 Tryz.underlying5 Tryz.underlying9 g 0 48 cap ?hx ((tolds 64 sf 8).take 48) ?hl ?hc ?_)
      case hx => rfl
      case hl => rw [List.length_take, HL.out]; rfl
      case hc =>
        intro j hj
        rw [Nat.zero_add, HC.out j (by omega), List.getD_eq_getElem?_getD, List.getD_eq_getElem?_getD, List.getElem?_take, if_pos hj]
      go_ret
      have e : (tolds 64 sf 8).take 48 = Sha.told Sha.k64 s := told_eq Sha.k64 s sf HS8.out HSF.out
      refine ⟨?_, HB0.out.trans (hbel.mono (by omega))⟩
      rw [← e]
      rfl
end Go.Proofs.YtilpbjcbffbjeaaGreatDoor
