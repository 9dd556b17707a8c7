/- The document's Runes. -/
import Derived.Test.YthdoeaiehajofaaDoorTFirst
namespace Go.Proofs.YthdoeaiehajofaaDoor
set_option linter.unusedVariables false
set_option maxRecDepth 20000
open Go.RowKit
def RRunesPost (w : World) (s : ByteArray) (e : Ending) (w' : World) : Prop := Below w.heap.size w w' ∧
  ((∃ rs v, U.Is (bs s) rs ∧ e = .returned (.tuple #[v, .bool true]) ∧ OwnsZ w' w.heap.size 3 .i64 v (rs.map Int.ofNat)) ∨
   ((∀ rs, ¬ U.Is (bs s) rs) ∧ e = .returned (.tuple #[.slice none 0 0, .bool false])))
/-- The runes so far. -/
structure RQ (w wr : World) (s : ByteArray) (pos : Nat) (rs : List Nat) (v : Value) : Prop where
  le : pos ≤ s.size
  tk : (bs s).take pos = U.encs rs
  ok : ∀ r ∈ rs, U.may r
  own : OwnsZ wr w.heap.size 3 .i64 v (rs.map Int.ofNat)
  bel : Below w.heap.size w wr
theorem RQ.len {w wr : World} {s : ByteArray} {pos : Nat} {rs : List Nat} {v : Value} (h : RQ w wr s pos rs v) : rs.length ≤ pos := by
  have h1 := encs_len rs
  rw [← h.tk, List.length_take] at h1
  omega
theorem RQ.is {w wr : World} {s : ByteArray} {rs : List Nat} {v : Value} {pos : Nat} (h : RQ w wr s pos rs v) (hp : ¬ pos < s.size) : U.Is (bs s) rs :=
  ⟨by have := h.tk; rwa [List.take_of_length_le (by rw [length_bs]; omega)] at this, h.ok⟩
theorem RQ.not {w wr : World} {s : ByteArray} {rs : List Nat} {v : Value} {pos : Nat} (h : RQ w wr s pos rs v) (hp : pos < s.size) (hn : ∀ n x, U.may n → (bs s).drop pos ≠ U.enc n ++ x) : ∀ us, ¬ U.Is (bs s) us := by
  intro us hu
  have e : bs s = U.encs rs ++ (bs s).drop pos := by rw [← h.tk, List.take_append_drop]
  rw [e] at hu
  obtain ⟨ts, _, h2⟩ := U.Is.cancel h.ok hu
  cases ts with
  | nil =>
    have := congrArg List.length h2.1
    rw [List.length_drop, length_bs] at this
    simp [U.encs_nil] at this
    omega
  | cons t ts => exact hn t (U.encs ts) (h2.2 t (by simp)) (by rw [h2.1, U.encs_cons])
theorem RQ.step {w wr : World} {s : ByteArray} {pos : Nat} {rs : List Nat} {v : Value} (h : RQ w wr s pos rs v) (r : Nat) (hr : U.may r) {x : List Nat} (hd : (bs s).drop pos = U.enc r ++ x) {v' : Value} {w' : World}
    (ho : OwnsZ w' w.heap.size 3 .i64 v' ((rs ++ [r]).map Int.ofNat)) (hb : Below w.heap.size w w') : RQ w w' s (pos + (U.enc r).length) (rs ++ [r]) v' := by
  have hx : x = (bs s).drop (pos + (U.enc r).length) := by rw [← List.drop_drop, hd, List.drop_left]
  have hl : pos + (U.enc r).length ≤ s.size := by
    have := congrArg List.length hd
    rw [List.length_append, List.length_drop, length_bs] at this
    have := h.le
    have := (U.enc_length r).1
    omega
  refine ⟨hl, ?_, fun x hx => (List.mem_append.1 hx).elim (h.ok x) (fun e => by rw [List.mem_singleton.1 e]; exact hr), ho, hb⟩
  have e : bs s = U.encs rs ++ (U.enc r ++ x) := by rw [← hd, ← h.tk, List.take_append_drop]
  have h1 : (U.encs rs).length = pos := by rw [← h.tk, List.length_take, length_bs, Nat.min_eq_left h.le]
  rw [U.encs_append, show U.encs [r] = U.enc r by simp [U.encs]]
  conv => lhs; rw [e]
  rw [← List.append_assoc, List.take_append_of_le_length (by rw [List.length_append]; omega), List.take_of_length_le (by rw [List.length_append]; omega)]
set_option maxHeartbeats 4000000 in
theorem rRunesW (s : ByteArray) (w : World) (hs : s.size ≤ 16777216) : Calls Tryd.prog 40 #[.string s] w (RRunesPost w s) := by
  go_enter Tryd.func40, Tryd.ntmps40
  go_wp2_with fail
  go_loopw [4, 5] (fun v4 v5 wr => ∃ (pos : Nat) (rs : List Nat), v5 = .int .i64 (pos : Nat) ∧ RQ w wr s pos rs v4) (fun _ v5 _ => (s.size - intOf v5).toNat)
  case atStart =>
    exact ⟨0, [], rfl, Nat.zero_le _, rfl, by simp, OwnsZ.lit (l := []) w _ _ _ (Nat.le_refl _) (by simp) (by decide), (Below.refl _ _).alloc (Nat.le_refl _) _⟩
  case round =>
    obtain ⟨pos, rs, rfl, hr⟩ := hrel
    have HR := Lib.hid hr
    obtain ⟨vp, vc, rfl⟩ := hr.own.shape
    obtain ⟨L, hL⟩ : ∃ L, L = (rs.map Int.ofNat).length := ⟨_, rfl⟩
    rw [← hL] at hr HR ⊢
    have HL := Lib.hid hL
    by_cases hp : pos < s.size
    · have hle := hr.le
      obtain ⟨t, ht⟩ : ∃ t, t = s.extract pos s.size := ⟨_, rfl⟩
      have hlen : L ≤ 16777216 := by rw [hL, List.length_map]; have := hr.len; omega
      have hcut : ∀ w, (Instr.slice 9 (.string s) (some (.int .i64 (pos : Int))) none none).run Tryd.prog w = .ok (.string t) w := fun w => by rw [ht]; exact cutFrom s _ pos rfl hle w
      have HBT : Hid (bs t = (bs s).drop pos) := by unfold Hid; rw [ht, bs_from]
      have HF := Lib.hid (firstW t wr (by rw [ht, ByteArray.size_extract]; omega))
      have HP := Lib.hid hp
      clear hr hL ht
      go_wp2_with fail
      refine HF.out.mono ?_
      rintro e w3 ⟨hb3, ⟨n, x, h1, h2, rfl⟩ | ⟨h1, rfl⟩⟩
      · have HB3 := Lib.hid hb3
        have H1 := Lib.hid h1
        have H2 := Lib.hid h2
        have hn1 := U.enc_length n
        have hnm := h1.1
        obtain ⟨z, hz⟩ : ∃ z : Int, z = (n : Int) := ⟨_, rfl⟩
        obtain ⟨m, hm⟩ : ∃ m, m = (U.enc n).length := ⟨_, rfl⟩
        rw [← hz]
        rw [← hm] at hn1 ⊢
        have hmb : ((m : Int) == 0) = false := by rw [beq_eq_false_iff_ne]; omega
        obtain ⟨hm1, hm4⟩ := hn1
        have HZ := Lib.hid hz
        have HM := Lib.hid hm
        have HB : Hid (Below w.heap.size w w3) := HR.out.bel.trans (hb3.mono HR.out.bel.size)
        have HO : Hid (OwnsZ w3 w.heap.size 3 .i64 (.slice vp L vc) (rs.map Int.ofNat)) := HR.out.own.below hb3
        clear hb3 h1 h2 hnm hz hm
        go_wp2_with (at_builtin; refine wpList_append_z rfl _ _ _ rfl Tryd.underlying22 infoI64 (by decide) rfl (HO.out.alloc _) ⟨w3.heap.size, 0, none⟩ 1 1 [z] rfl rfl ?d1 ?d2 ?d3 ?_)
        try (case d1 => intro j hj; obtain rfl : j = 0 := (by omega); simp [Addr.add])
        case d2 => rw [← HL.out]; omega
        case d3 => have := HB.out.size; simp; omega
        intro v5 w5 ho5 hg5 hv5
        have R := Lib.hid (HR.out.step n H1.out (HBT.out ▸ H2.out) (v' := v5) (w' := w5) (by rw [List.map_append]; rw [HZ.out] at ho5; exact ho5) ((HB.out.alloc HB.out.size _).grown hg5 (by have := HB.out.size; simp; omega) (fun k hk => (HO.out.block hk).1)))
        have HPM : Hid (pos + m ≤ s.size) := by unfold Hid; rw [HM.out]; exact R.out.le
        have hpm := HPM.out
        clear ho5 hg5 hv5 HO HB HF
        go_wp2_with fail
        refine ⟨⟨pos + m, rs ++ [n], by simp, by rw [HM.out]; exact R.out⟩, by simp [intOf]; omega⟩
      · have HB3 := Lib.hid hb3
        have H1 := Lib.hid h1
        clear hb3 h1
        go_wp2_with fail
        go_ret2
        exact ⟨HR.out.bel.trans (HB3.out.mono HR.out.bel.size), .inr ⟨HR.out.not HP.out (by have := H1.out; rwa [HBT.out] at this), rfl⟩⟩
    · have HP := Lib.hid hp
      have hle := hr.le
      have hpe : pos = s.size := by omega
      clear hr hL
      go_wp2_with fail
      go_ret2
      exact ⟨HR.out.bel, .inl ⟨rs, _, HR.out.is HP.out, rfl, HR.out.own⟩⟩
end Go.Proofs.YthdoeaiehajofaaDoor
