/- The walk of made: a disk behind a script. -/
import Derived.Test.YtpaldmbffmhphaaDMade
namespace Go.Proofs.Ytpaldmbffmhphaa
open Go.RowKit
theorem infoOp : (Try.prog.info? 43).map (fun i => (i.zero, i.size, i.bytes)) = some (some (.agg #[.int .i64 0, .int .i64 0, .int .i64 0, .int .i64 0, .string ⟨#[]⟩, .slice none 0 0]), 6, 72) := by kernel_rfl
set_option maxRecDepth 100000 in
set_option maxHeartbeats 1600000 in
theorem madeW {w : World} (v u : Value) (ss : List ByteArray) (os : List Opv) (h : Strs w v ss) (hl : ss.length ≤ 1048576) (hm : ∀ i, i < ss.length → (ss.getD i ⟨#[]⟩).size ≤ 1048576)
    (ho : Ops w u os) (hol : os.length ≤ 1048576) (hom : ∀ i, i < os.length → (os.getD i Opv.zero).s.size ≤ 1048576) :
    Calls Try.prog 8 #[v, u] w fun e w' => Below w.heap.size w w' ∧
      ((newErr ss ≠ 0 ∧ e = .returned (.pointer none)) ∨
       (newErr ss = 0 ∧ ∃ b g cap, e = .returned (.pointer (some ⟨b, 0, none⟩)) ∧ At w.heap.size w b g cap (dk0 (mk ss os)) w')) := by
  have HNEW := Lib.hid (newW v ss h hl hm)
  obtain ⟨vp, vc, rfl, _⟩ := h.form
  obtain ⟨up, uc, rfl, hoc⟩ := ho
  have HOC := Lib.hid hoc
  have HOM := Lib.hid hom
  obtain ⟨m, hmm⟩ : ∃ m, m = os.length := ⟨_, rfl⟩
  rw [← hmm] at hol ⊢
  have HM := Lib.hid hmm
  clear h hm hom hoc hmm
  go_enter Try.func8, Try.ntmps8
  go_wp2_with fail
  refine HNEW.out.mono ?_
  rintro e w1 ⟨hb1, hh⟩
  rcases hh with ⟨hne, rfl⟩ | ⟨he0, b, g, cap, rfl, hid, hbb, hgg⟩
  · have h0 : (newErr ss == 0) = false := by rw [beq_eq_false_iff_ne]; exact hne
    have H := Lib.hid (And.intro hb1 hne)
    clear hb1 hne
    go_wp2_with fail
    go_ret
    exact ⟨H.out.1, .inl ⟨H.out.2, rfl⟩⟩
  · have HAT : Hid (At w.heap.size w b g cap (dk0 (mk ss [])) w1) := ⟨hid, hb1, hbb, hgg, Nat.le_refl _⟩
    have HINV := Lib.hid (mk_inv he0)
    have HE := Lib.hid he0
    clear hid hb1 hbb hgg HNEW he0
    go_wp2_with fail
    go_loopw [7] (fun vi wr => ∃ i : Nat, i ≤ m ∧ vi = .int .i64 (i : Nat) ∧ At w.heap.size w b g cap (dk0 (mk ss (os.take i))) wr) (fun vi _ => (m - intOf vi).toNat)
    case atStart => exact ⟨0, by omega, rfl, HAT.out⟩
    case round =>
      obtain ⟨i, hi, rfl, hat⟩ := hrel
      have HA := Lib.hid hat
      by_cases hlt : i < m
      · obtain ⟨ob, oo, rfl, c0, c1, c2, c3, c4, cv, c5, hcv⟩ := HOC.out i (by rw [← HM.out]; exact hlt)
        have k := fun (a : Addr) (v : Value) (hc : w.cell? a = some v) => (hat.below.cell (block_lt_of_cell hc)).trans hc
        replace c0 := k _ _ c0
        replace c1 := k _ _ c1
        replace c2 := k _ _ c2
        replace c3 := k _ _ c3
        replace c4 := k _ _ c4
        replace c5 := k _ _ c5
        obtain ⟨qp, qc, rfl, _⟩ := hcv
        obtain ⟨qn, hqn⟩ : ∃ n, n = (os.getD i Opv.zero).ch.length := ⟨_, rfl⟩
        rw [← hqn] at c5
        have htk := take_succ_getD os i Opv.zero (by rw [← HM.out]; exact hlt)
        have hsz := HOM.out i (by rw [← HM.out]; exact hlt)
        obtain ⟨o, hoo⟩ : ∃ o, o = os.getD i Opv.zero := ⟨_, rfl⟩
        rw [← hoo] at c0 c1 c2 c3 c4 htk hsz
        have htk2 : mk ss (os.take (i + 1)) = mkL (mk ss (os.take i)) o := by rw [htk, mk_snoc]
        have HTK := Lib.hid htk2
        clear htk2
        obtain ⟨W, hW⟩ : ∃ W, W = wr.alloc (.cells #[.int .i64 o.on, .int .i64 o.kind, .int .i64 o.f, .int .i64 o.n, .string o.s, .slice qp qn qc] 43) := ⟨_, rfl⟩
        have hat2 : At w.heap.size w b g cap (dk0 (mk ss (os.take i))) W := hat.grow (by rw [hW]; exact (Below.refl _ _).alloc (Nat.le_refl _) _)
        have hok : MInv (mk ss (os.take i)) (os.take i).length := HINV.out _
        have hln : (os.take i).length ≤ 1048576 := by rw [List.length_take]; omega
        have hdk := hok.ok (by omega)
        have hmany : ∀ f, f < (dk0 (mk ss (os.take i))).l.length → ((dk0 (mk ss (os.take i))).l.getD f Fl.zero).ws.length < 1099511627776 := fun f hf => by have := hok.many f hf; show ((mk ss (os.take i)).getD f Fl.zero).ws.length < _; omega
        have HAT2 := Lib.hid hat2
        have H0 := Lib.hid (writeA hat2.disk hdk o.f o.s (by omega) hmany)
        have H1 := Lib.hid (syncA hat2.disk hdk o.f)
        have H2 := Lib.hid (cutA hat2.disk hdk o.f o.n)
        have HW := Lib.hid hW
        clear k hat hqn hoo htk hat2 hok hln hdk hmany hW
        by_cases k0 : o.kind = 0
        · have e0 : (o.kind == 0) = true := by rw [beq_iff_eq]; exact k0
          have HK := Lib.hid k0
          clear k0
          go_wp2_with fail
          rw [← HW.out]
          refine H0.out.mono ?_
          rintro e w2 ⟨rfl, hid, hc⟩
          rw [writeX_dk0 _ _ HK.out] at hid
          have HF := Lib.hid (HAT2.out.chg hid hc)
          clear hid hc
          go_wp2_with fail
          exact ⟨⟨i + 1, by omega, rfl, by rw [HTK.out]; exact HF.out⟩, by simp [intOf]; omega⟩
        have e0 : (o.kind == 0) = false := by rw [beq_eq_false_iff_ne]; exact k0
        have HK0 := Lib.hid k0
        clear k0 H0
        by_cases k0 : o.kind = 1
        · have e1 : (o.kind == 1) = true := by rw [beq_iff_eq]; exact k0
          have HK := Lib.hid k0
          clear k0
          go_wp2_with fail
          rw [← HW.out]
          refine H1.out.mono ?_
          rintro e w2 ⟨rfl, hid, hc⟩
          rw [syncX_dk0 _ _ HK.out] at hid
          have HF := Lib.hid (HAT2.out.chg hid hc)
          clear hid hc
          go_wp2_with fail
          exact ⟨⟨i + 1, by omega, rfl, by rw [HTK.out]; exact HF.out⟩, by simp [intOf]; omega⟩
        have e1 : (o.kind == 1) = false := by rw [beq_eq_false_iff_ne]; exact k0
        have HK1 := Lib.hid k0
        clear k0 H1
        by_cases k0 : o.kind = 2
        · have e2 : (o.kind == 2) = true := by rw [beq_iff_eq]; exact k0
          have HK := Lib.hid k0
          clear k0
          go_wp2_with fail
          rw [← HW.out]
          refine H2.out.mono ?_
          rintro e w2 ⟨rfl, hid, hc⟩
          rw [cutX_dk0 _ _ HK.out] at hid
          have HF := Lib.hid (HAT2.out.chg hid hc)
          clear hid hc
          go_wp2_with fail
          exact ⟨⟨i + 1, by omega, rfl, by rw [HTK.out]; exact HF.out⟩, by simp [intOf]; omega⟩
        have e2 : (o.kind == 2) = false := by rw [beq_eq_false_iff_ne]; exact k0
        have HK2 := Lib.hid k0
        clear k0 H2
        go_wp2_with fail
        exact ⟨⟨i + 1, by omega, rfl, by rw [HTK.out, mkL_other _ _ HK0.out HK1.out HK2.out, ← HW.out]; exact HAT2.out⟩, by simp [intOf]; omega⟩
      · have hie : i = m := by omega
        rw [hie, HM.out, List.take_length] at hat
        have H := Lib.hid (And.intro hat HE.out)
        clear hat HE
        go_wp2_with fail
        go_ret
        exact ⟨H.out.1.below, .inr ⟨H.out.2, b, g, cap, rfl, H.out.1⟩⟩
end Go.Proofs.Ytpaldmbffmhphaa
