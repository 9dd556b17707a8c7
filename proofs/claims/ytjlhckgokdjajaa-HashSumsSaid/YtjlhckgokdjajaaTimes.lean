/- The walks of times and above, over digits of sixteen bits. -/
import Derived.Test.YtjlhckgokdjajaaDigits
import Derived.Test.YtjlhckgokdjajaaSmall
namespace Go.Proofs.Ytjlhckgokdjajaa
open Go.RowKit
theorem info58 : (Try.prog.info? 58).map (fun i => (i.zero, i.size, i.bytes)) = some (some (.int .u64 0), 1, 8) := by kernel_rfl
theorem madeCells_row (n : Nat) : madeCells #[Value.int .u64 0] n = (rowOf .u64 n (fun _ => 0)).toArray := by
  refine Array.ext_getElem? fun j => ?_
  by_cases hj : j < n
  · have h2 : (rowOf .u64 n (fun _ => 0)).toArray[j]? = some (.int .u64 ((0 : Nat) : Int)) := by rw [List.getElem?_toArray, getElem?_rowOf _ _ _ _ hj]
    rw [h2]; simp [madeCells, hj, Nat.mod_one]
  · have h2 : (rowOf .u64 n (fun _ => 0)).toArray[j]? = none := by rw [List.getElem?_toArray, List.getElem?_eq_none (by rw [length_rowOf]; omega)]
    rw [h2, Array.getElem?_eq_none (by rw [size_madeCells]; omega)]
theorem ret_val {k : IntKind} {a b : Int} (h : a = b) : Value.int k a = Value.int k b := by rw [h]
theorem ret_bool {a b : Bool} (h : a = b) : Ending.returned (.bool a) = .returned (.bool b) := by rw [h]
/-- Cells of a block that hold digits. -/
def Cells64 (w : World) (B n : Nat) (f : Nat → Nat) : Prop := ∀ j, j < n → w.cell? ⟨B, j, none⟩ = some (.int .u64 (f j : Nat))
theorem Cells64.below {w w' : World} {B n : Nat} {f : Nat → Nat} (h : Cells64 w B n f) (hb : Below w.heap.size w w') : Cells64 w' B n f := fun j hj => (hb.cell (block_lt_of_cell (h j hj))).trans (h j hj)
set_option maxRecDepth 100000 in
set_option maxHeartbeats 400000 in
theorem timesW (Ba Bb la lb ca cb : Nat) (fa fb : Nat → Nat) (w : World) (ha : Cells64 w Ba la fa) (hb : Cells64 w Bb lb fb) (da : ∀ j, j < la → fa j < 65536) (db : ∀ j, j < lb → fb j < 65536) (hla : la ≤ 1000) (hlb : lb ≤ 1000) :
    Calls Try.prog 43 #[.slice (some ⟨Ba, 0, none⟩) la ca, .slice (some ⟨Bb, 0, none⟩) lb cb] w fun e w' => ∃ f, e = .returned (.slice (some ⟨w.heap.size, 0, none⟩) (la + lb) (la + lb)) ∧ Row w' w.heap.size 58 .u64 (la + lb) f ∧
      (∀ j, j < la + lb → f j < 65536) ∧ Sha.V f (la + lb) = Sha.V fa la * Sha.V fb lb ∧ Below w.heap.size w w' := by
  obtain ⟨i0, hi, hz0, hz1, hz2⟩ := info_parts info58
  have hmk : ∀ u : World, (Instr.makeSlice 49 (.int .i64 ((la : Int) + (lb : Int))) (.int .i64 ((la : Int) + (lb : Int)))).run Try.prog u =
      .ok (.slice (some ⟨u.heap.size, 0, none⟩) (la + lb) (la + lb)) (u.alloc (.cells (rowOf .u64 (la + lb) (fun _ => 0)).toArray 58)) := fun u => by
    have h := run_make (P := Try.prog) u 49 58 i0 (.int .u64 0) Try.underlying49 hi hz0 .i64 .i64 ((la : Int) + (lb : Int)) ((la : Int) + (lb : Int)) (by omega) (Int.le_refl _) (by rw [hz2]; omega) (by omega)
    have e : ((la : Int) + (lb : Int)).toNat = la + lb := by omega
    rw [e] at h
    rw [← madeCells_row]
    simpa [hz1, Value.cells] using h
  have HA := Lib.hid ha
  have HB := Lib.hid hb
  have DA := Lib.hid da
  have DB := Lib.hid db
  clear ha hb da db hi hz0 hz1 hz2
  go_enter Try.func43, Try.ntmps43
  go_wp2_with fail
  have hr := Row.new w 58 .u64 (la + lb) (fun _ => 0) _ rfl
  have hbw : Below w.heap.size w (w.alloc (.cells (rowOf .u64 (la + lb) (fun _ => 0)).toArray 58)) := (Below.refl _ _).alloc (Nat.le_refl _) _
  obtain ⟨W1, hW1⟩ : ∃ v, v = w.alloc (.cells (rowOf .u64 (la + lb) (fun _ => 0)).toArray 58) := ⟨_, rfl⟩
  rw [← hW1] at hr hbw ⊢
  obtain ⟨B0, hB0⟩ : ∃ b, b = w.heap.size := ⟨_, rfl⟩
  rw [← hB0] at hr hbw ⊢
  have HR := Lib.hid hr
  have HBW := Lib.hid hbw
  have HB0 := Lib.hid hB0
  clear hr hbw hW1 hB0
  go_loopw [6] (fun vi wr => ∃ (i : Nat) (f : Nat → Nat), i ≤ la ∧ vi = .int .i64 (i : Nat) ∧ Row wr B0 58 .u64 (la + lb) f ∧ Sha.MO fa fb la lb i f ∧ Below B0 w wr) (fun vi _ => (la - intOf vi).toNat)
  case atStart => exact ⟨0, fun _ => 0, by omega, rfl, HR.out, ⟨fun _ _ => by simp, fun _ _ _ => rfl, by rw [Sha.V_zero]; simp [Sha.V]⟩, HBW.out⟩
  case round =>
    obtain ⟨i, f, hi, rfl, hr, hm, hb⟩ := hrel
    have HRR := Lib.hid hr
    have HM := Lib.hid hm
    have HBR := Lib.hid hb
    clear hr hm hb
    by_cases hlt : i < la
    · go_wp2_with fail
      obtain ⟨wo, rfl⟩ : ∃ wo : World, wo = wr := ⟨_, rfl⟩
      go_loopw [7, 8] (fun vc vk wq => ∃ (k c : Nat) (g : Nat → Nat), k ≤ lb ∧ vk = .int .i64 (k : Nat) ∧ vc = .int .u64 (c : Nat) ∧ Row wq B0 58 .u64 (la + lb) g ∧ Sha.MI fa fb la lb i k c g ∧ Below B0 w wq) (fun _ vk _ => (lb - intOf vk).toNat)
      case atStart => exact ⟨0, 0, f, by omega, rfl, rfl, HRR.out, HM.out.start, HBR.out⟩
      case round =>
        obtain ⟨k, c, g, hk, rfl, rfl, hr, hm, hb⟩ := hrel
        have HR2 := Lib.hid hr
        have HM2 := Lib.hid hm
        have HB2 := Lib.hid hb
        clear hr hm hb
        by_cases hkt : k < lb
        · have q1 : ∀ t : Grow wr, t.val.cell? ⟨B0, i + k, none⟩ = some (.int .u64 (g (i + k) : Nat)) := fun t => t.cell (HR2.out.cell (by omega))
          have q2 : ∀ t : Grow wr, t.val.cell? ⟨Ba, i, none⟩ = some (.int .u64 (fa i : Nat)) := fun t => t.cell ((HB2.out.cell (by rw [HB0.out]; exact block_lt_of_cell (HA.out i hlt))).trans (HA.out i hlt))
          have q3 : ∀ t : Grow wr, t.val.cell? ⟨Bb, k, none⟩ = some (.int .u64 (fb k : Nat)) := fun t => t.cell ((HB2.out.cell (by rw [HB0.out]; exact block_lt_of_cell (HB.out k hkt))).trans (HB.out k hkt))
          have hst := HM2.out.step hlt hkt (DA.out i hlt) (DB.out k hkt)
          have hc0 := HM2.out.cl
          have hc1 := HM2.out.d (i + k) (by omega)
          have hc2 := (Sha.carry_lt hc0 hc1 (DA.out i hlt) (DB.out k hkt)).1
          obtain ⟨x, hx⟩ : ∃ x, x = g (i + k) := ⟨_, rfl⟩
          obtain ⟨y, hy⟩ : ∃ y, y = fa i := ⟨_, rfl⟩
          obtain ⟨z, hz⟩ : ∃ z, z = fb k := ⟨_, rfl⟩
          rw [← hx] at q1 hst hc1 hc2
          rw [← hy] at q2 hst hc2
          rw [← hz] at q3 hst hc2
          obtain ⟨m, hmm⟩ : ∃ m, m = y * z := ⟨_, rfl⟩
          rw [← hmm] at hst hc2
          have hw1 : IntKind.u64.wrap ((y : Int) * (z : Int)) = (m : Int) := by rw [hmm, ← Int.natCast_mul, wrap_u64_nat]; rw [← hmm]; omega
          have hw2 : IntKind.u64.wrap ((x : Int) + (m : Int)) = ((x + m : Nat) : Int) := by rw [← Int.natCast_add, wrap_u64_nat]; omega
          have hw3 : IntKind.u64.wrap ((c : Int) + ((x + m : Nat) : Int)) = ((c + (x + m) : Nat) : Int) := by rw [← Int.natCast_add, wrap_u64_nat]; omega
          have hik : IntKind.i64.wrap ((i : Int) + (k : Int)) = (i : Int) + (k : Int) := IntWalk.i64_in _ (by omega)
          have hik0 : (0 : Int) ≤ (i : Int) + (k : Int) := by omega
          have hik1 : ((i : Int) + (k : Int)).toNat = i + k := by omega
          have HST := Lib.hid hst
          clear hst hx hy hz hmm
          go_wp2_with fail
          refine wp_region_fam (by kernel_rfl) (by kernel_rfl) Grow.val (Grow.start wr) ?_
          repeat go_big_quiet_step (fail)
          refine wpQuiet_nil ?_
          intro t
          clear q1 q2 q3 hik hik0 hik1
          obtain ⟨d, hd⟩ : ∃ d, d = (c + x + m) % 65536 := ⟨_, rfl⟩
          have hand : bits .and .u64 ((c : Int) + ((x : Int) + (m : Int))) 65535 = (d : Int) := by
            have := and_u64 (c + (x + m)) 65535 (by omega) (by decide)
            rw [show ((c : Int) + ((x : Int) + (m : Int))) = ((c + (x + m) : Nat) : Int) by omega, show (65535 : Int) = ((65535 : Nat) : Int) from rfl, this, hd]
            rw [show 65535 = 2 ^ 16 - 1 from rfl, Nat.and_two_pow_sub_one_eq_mod, Nat.add_assoc]
          have HDD := Lib.hid hd
          clear hd
          have hrow := t.row HR2.out
          have q4 := hrow.cell (j := i + k) (by omega)
          have q5 := hrow.free (i + k)
          have HROW := Lib.hid hrow
          clear hrow
          go_wp2_with fail
          go_roundw
          case rel =>
            refine ⟨k + 1, (c + x + m) / 65536, Sha.upd g (i + k) d, by omega, by go_num, ret_val (by omega), (HROW.out.set (by omega) d).congr (fun j _ => rfl), ?_, ?_⟩
            · rw [HDD.out]; exact HST.out
            · exact (HB2.out.trans (t.below.mono (by have := HR2.out.lt; omega))).setCell (p := ⟨B0, i + k, none⟩) (Nat.le_refl _) _
          case measure => simp [intOf]; omega
        · obtain rfl : k = lb := by omega
          have q4 := HR2.out.cell (j := i + k) (by omega)
          have q5 := HR2.out.free (i + k)
          go_wp2_with fail
          go_roundw
          case rel =>
            refine ⟨i + 1, Sha.upd g (i + k) c, by omega, by go_num, (HR2.out.set (by omega) c).congr (fun j _ => rfl), HM2.out.finish hlt, ?_⟩
            exact HB2.out.setCell (p := ⟨B0, i + k, none⟩) (Nat.le_refl _) _
          case measure => simp [intOf]; omega
    · obtain rfl : i = la := by omega
      go_wp2_with fail
      go_ret
      have h := HB0.out
      subst h
      exact ⟨f, rfl, HRR.out, HM.out.d, HM.out.v, HBR.out⟩
/-- The digits of p times 65536^o. -/
def oneAt (p o : Nat) : Nat → Nat := fun j => if j = o then p else 0
theorem oneAt_lt {p o : Nat} (hp : p < 65536) (j : Nat) : oneAt p o j < 65536 := by unfold oneAt; split <;> omega
theorem oneAt_V (p o N : Nat) (h : o < N) : Sha.V (oneAt p o) N = p * 65536 ^ o := by
  have := Sha.V_one p o N
  rw [if_pos h] at this
  exact this
set_option maxRecDepth 100000 in
set_option maxHeartbeats 400000 in
theorem aboveW (Ba N ca p o : Nat) (f : Nat → Nat) (w : World) (ha : Cells64 w Ba N f) (hd : ∀ j, j < N → f j < 65536) (hp : p < 65536) (ho : o < N) (hN : N ≤ 3000) :
    Calls Try.prog 44 #[.slice (some ⟨Ba, 0, none⟩) N ca, .int .u64 (p : Nat), .int .i64 (o : Nat)] w fun e w' => e = .returned (.bool (decide (p * 65536 ^ o < Sha.V f N))) ∧ w = w' := by
  have HA := Lib.hid ha
  have HD := Lib.hid hd
  have HV := Lib.hid (oneAt_V p o N ho)
  clear ha hd
  go_enter Try.func44, Try.ntmps44
  go_wp2_with fail
  go_loop [7] (fun vi => ∃ z : Int, -1 ≤ z ∧ z < N ∧ vi = .int .i64 z ∧ Sha.V f N + Sha.V (oneAt p o) (z + 1).toNat = Sha.V (oneAt p o) N + Sha.V f (z + 1).toNat) (fun vi => (intOf vi + 1).toNat)
  case atStart => exact ⟨(N : Int) - 1, by omega, by omega, rfl, by rw [show ((N : Int) - 1 + 1).toNat = N by omega]; omega⟩
  case round =>
    obtain ⟨z, hz1, hz2, rfl, he⟩ := hrel
    by_cases hz : 0 ≤ z
    · obtain ⟨m, rfl⟩ := Int.eq_ofNat_of_zero_le hz
      rw [show ((m : Int) + 1).toNat = m + 1 by omega] at he
      have hc := Sha.V_cmp he (fun j hj => HD.out j (by omega)) (fun j _ => oneAt_lt hp j)
      have q1 := HA.out m (by omega)
      obtain ⟨x, hx⟩ : ∃ x, x = f m := ⟨_, rfl⟩
      rw [← hx] at q1 hc
      have HX := Lib.hid hx
      have HE := Lib.hid he
      clear hx he
      by_cases hmo : m = o
      · have hb : ((m : Int) == (o : Int)) = true := by rw [beq_iff_eq]; omega
        have ht : oneAt p o m = p := by unfold oneAt; rw [if_pos hmo]
        rw [ht, HV.out] at hc
        have HC := Lib.hid hc
        have HT := Lib.hid ht
        clear hc ht hmo
        by_cases hxp : x = p
        · have hb2 : ((x : Int) != (p : Int)) = false := by rw [bne_eq_false_iff_eq]; omega
          have HXP := Lib.hid hxp
          clear hxp
          go_wp2_with fail
          go_round
          case rel =>
            refine ⟨(m : Int) - 1, by omega, by omega, rfl, ?_⟩
            have h1 := HE.out
            rw [Sha.V_succ, Sha.V_succ, HT.out, ← HX.out, HXP.out] at h1
            simp only [show ((m : Int) - 1 + 1).toNat = m by omega]
            omega
          case measure => simp [intOf]
        · have hb2 : ((x : Int) != (p : Int)) = true := by rw [bne_iff_ne]; omega
          go_wp2_with fail
          go_ret
          refine ⟨ret_bool (decide_eq_decide.2 ?_), rfl⟩
          constructor
          · intro h; exact HC.out.1 (by omega)
          · intro h
            by_cases h2 : p < x
            · omega
            · exact absurd (HC.out.2 (by omega)) (by omega)
      · have hb : ((m : Int) == (o : Int)) = false := by rw [beq_eq_false_iff_ne]; omega
        have ht : oneAt p o m = 0 := by unfold oneAt; rw [if_neg hmo]
        rw [ht, HV.out] at hc
        have HC := Lib.hid hc
        have HT := Lib.hid ht
        clear hc ht hmo
        by_cases hxp : x = 0
        · have hb2 : ((x : Int) != 0) = false := by rw [bne_eq_false_iff_eq]; omega
          have HXP := Lib.hid hxp
          clear hxp
          go_wp2_with fail
          go_round
          case rel =>
            refine ⟨(m : Int) - 1, by omega, by omega, rfl, ?_⟩
            have h1 := HE.out
            rw [Sha.V_succ, Sha.V_succ, HT.out, ← HX.out, HXP.out] at h1
            simp only [show ((m : Int) - 1 + 1).toNat = m by omega]
            omega
          case measure => simp [intOf]
        · have hb2 : ((x : Int) != 0) = true := by rw [bne_iff_ne]; omega
          go_wp2_with fail
          go_ret
          have hx0 : 0 < x := by omega
          exact ⟨ret_bool (decide_eq_decide.2 ⟨fun _ => HC.out.1 hx0, fun _ => hx0⟩), rfl⟩
    · obtain rfl : z = -1 := by omega
      have HE : Hid (Sha.V f N = p * 65536 ^ o) := by rw [HV.out] at he; unfold Hid; simpa [Sha.V] using he
      clear he
      go_wp2_with fail
      go_ret
      exact ⟨ret_bool (decide_eq_false (by rw [HE.out]; omega)).symm, rfl⟩
end Go.Proofs.Ytjlhckgokdjajaa
