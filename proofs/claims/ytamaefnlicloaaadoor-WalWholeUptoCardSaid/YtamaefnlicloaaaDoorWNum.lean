/- The program's number and Record: a record's bytes. -/
import Derived.Test.YtamaefnlicloaaaDoorWPlain
import Derived.Test.YtamaefnlicloaaaDoorDMem
namespace Go.Proofs.YtamaefnlicloaaaDoor
set_option linter.unusedVariables false
set_option maxRecDepth 100000
open Go.RowKit
theorem infoB : (Tryd.prog.info? 5).map (fun i => (i.zero, i.size, i.bytes)) = some (some (.int .u8 0), 1, 1) := by kernel_rfl
theorem shrN (x n : Nat) : (x : Int) / 2 ^ n = ((x / 2 ^ n : Nat) : Int) := by simp
set_option maxHeartbeats 1000000 in
theorem numberW {base : Nat} (v : Value) (l : List Nat) (w : World) (hown : Owns w base 5 v l) (n k : Nat) (hn : n < 9223372036854775808) (hk : k ≤ 8) (hl : l.length ≤ 1048576) (hb : base ≤ w.heap.size) :
    Calls Tryd.prog 36 #[v, .int .i64 (n : Nat), .int .i64 (k : Nat)] w fun e w' => ∃ v', e = .returned v' ∧ Owns w' base 5 v' (l ++ num n k) ∧ Below base w w' := by
  obtain ⟨p0, c0, rfl⟩ := hown.shape
  have HO := Lib.hid hown
  have HBASE := Lib.hid hb
  clear hown hb
  go_enter Tryd.func36, Tryd.ntmps36
  go_wp2_with fail
  go_loopw [0, 7] (fun v0 v7 wr => ∃ (i : Nat) (l' : List Nat), i ≤ k ∧ v7 = .int .i64 ((i : Int) - 1) ∧ Owns wr base 5 v0 l' ∧ l' ++ num n i = l ++ num n k ∧ l'.length ≤ 1048584 ∧ base ≤ wr.heap.size ∧ Below base w wr) (fun _ v _ => (intOf v + 1).toNat)
  case atStart => exact ⟨k, l, Nat.le_refl _, rfl, HO.out, rfl, by omega, HBASE.out, Below.refl _ _⟩
  case round =>
    obtain ⟨i, l', hi, rfl, ho, he, hl', hs, hb⟩ := hrel
    obtain ⟨p1, c1, rfl⟩ := ho.shape
    have HO := Lib.hid ho
    have HB := Lib.hid hb
    have HS := Lib.hid hs
    have HE := Lib.hid he
    have HL := Lib.hid hl'
    have hlen : l'.length + i = l.length + k := by have := congrArg List.length he; rw [List.length_append, List.length_append, length_num, length_num] at this; exact this
    have HLN := Lib.hid hlen
    clear ho he hl' hs hb hlen
    rcases i with _ | i
    · have h2 := HE.out
      rw [show num n 0 = [] from rfl, List.append_nil] at h2
      subst h2
      clear HE HLN HL
      go_wp2_with fail
      go_ret
      exact ⟨_, rfl, HO.out, HB.out⟩
    · have e1 : ((i + 1 : Nat) : Int) - 1 = (i : Int) := by omega
      rw [e1]
      obtain ⟨c, hc⟩ : ∃ c, c = n / 256 ^ i % 256 := ⟨_, rfl⟩
      have hc256 : c < 256 := by omega
      have hq : (n : Int) / 2 ^ (8 * i) % 256 = (c : Int) := by
        rw [shrN, hc, show 256 ^ i = 2 ^ (8 * i) by rw [Nat.pow_mul]]; omega
      obtain ⟨q, hqd⟩ : ∃ q, q = n / 2 ^ (8 * i) := ⟨_, rfl⟩
      have hqn : q ≤ n := by rw [hqd]; exact Nat.div_le_self _ _
      have hqq : (n : Int) / 2 ^ (8 * i) = (q : Int) := by rw [hqd, shrN]
      rw [hqq] at hq
      have HC := Lib.hid hc
      clear hc hqd e1
      go_wp2_with (at_builtin; refine wpList_append_bytes rfl _ _ 30 rfl Tryd.underlying30 infoB rfl (HO.out.alloc _) ⟨wr.heap.size, 0, none⟩ 1 1 [c] rfl rfl ?d1 ?d2 ?d3 ?_)
      case d1 => intro k hk; obtain rfl : k = 0 := by omega
                 simp [Addr.add]
      case d2 => have := HL.out; omega
      case d3 => have := HS.out; simp; omega
      intro v' w2 ho2 hg2 _
      have HO2 := Lib.hid ho2
      have HB2 := Lib.hid ((HB.out.alloc HS.out _).grown hg2 (by have := HS.out; simp; omega) (fun k hk => (HO.out.block hk).1))
      have HS2 : Hid (base ≤ w2.heap.size) := Nat.le_trans (Nat.le_trans HS.out (by simp)) hg2.size
      clear ho2 hg2
      go_wp2_with fail
      refine ⟨⟨i, l' ++ [c], by omega, rfl, HO2.out, ?_, by rw [List.length_append, List.length_singleton]; have := HLN.out; omega, HS2.out, HB2.out⟩, by simp [intOf]⟩
      rw [← HE.out, num_succ, HC.out, List.append_assoc]; rfl
set_option maxHeartbeats 1000000 in
theorem recordW (n : Nat) (p : ByteArray) (w : World) (h1 : 1 ≤ n) (h2 : n ≤ 1099511627776) (hp : p.size ≤ 16384) :
    Calls Tryd.prog 8 #[.int .i64 (n : Nat), .string p] w fun e w' => e = .returned (.tuple #[.string (recS n p), .int .i64 0]) ∧ Below w.heap.size w w' := by
  obtain ⟨l1, hl1⟩ : ∃ l, l = [] ++ num p.size 3 := ⟨_, rfl⟩
  obtain ⟨l2, hl2⟩ : ∃ l, l = l1 ++ num n 8 := ⟨_, rfl⟩
  obtain ⟨l3, hl3⟩ : ∃ l, l = l2 ++ bs p := ⟨_, rfl⟩
  obtain ⟨l4, hl4⟩ : ∃ l, l = l3 ++ num n 8 := ⟨_, rfl⟩
  have k1 : l1.length = 3 := by rw [hl1]; rfl
  have k2 : l2.length = 11 := by rw [hl2, List.length_append, k1, length_num]
  have k3 : l3.length = 11 + p.size := by rw [hl3, List.length_append, k2, length_bs]
  have k4 : l4.length = 19 + p.size := by rw [hl4, List.length_append, k3, length_num]; omega
  have K4 : Hid (strOf l4 = recS n p) := by
    unfold Hid recS recL
    rw [hl4, hl3, hl2, hl1, length_bs]; simp only [List.nil_append, List.append_assoc]
  have H1 := Lib.hid (numberW _ [] w (Owns.nil w w.heap.size 5) p.size 3 (by omega) (by omega) (by decide) (Nat.le_refl _))
  rw [← hl1] at H1
  have H2 := Lib.hid (fun v w1 ho hs => numberW (base := w.heap.size) v l1 w1 ho n 8 (by omega) (by omega) (by omega) hs)
  have H3 := Lib.hid (fun v w1 ho hs => numberW (base := w.heap.size) v l3 w1 ho n 8 (by omega) (by omega) (by omega) hs)
  rw [← hl2] at H2
  rw [← hl4] at H3
  have HL3 := Lib.hid hl3
  have K2 := Lib.hid k2
  clear hl1 hl2 hl3 hl4 k1 k2 k3 k4
  obtain ⟨b, hb⟩ : ∃ b, b = w.heap.size := ⟨_, rfl⟩
  rw [← hb] at H1 H2 H3 ⊢
  have HBB := Lib.hid hb
  clear hb
  go_enter Tryd.func8, Tryd.ntmps8
  go_wp2_with fail
  refine H1.out.mono ?_
  rintro e w1 ⟨v1, rfl, ho, hbe⟩
  have HB := Lib.hid hbe
  have HS : Hid (b ≤ w1.heap.size) := by unfold Hid; rw [HBB.out]; exact hbe.size
  obtain ⟨q1, c1, rfl⟩ := ho.shape
  have H2' := Lib.hid (H2.out _ _ ho HS.out)
  clear ho hbe
  go_wp2_with fail
  refine H2'.out.mono ?_
  rintro e w2 ⟨v2, rfl, ho, hbe⟩
  replace HB := Lib.hid (HB.out.trans hbe)
  replace HS : Hid (b ≤ w2.heap.size) := Nat.le_trans HS.out hbe.size
  obtain ⟨q2, c2, rfl⟩ := ho.shape
  have HO := Lib.hid ho
  clear ho hbe H2' H2 H1
  go_wp2_with (at_builtin; refine wpList_append_str rfl _ _ 30 9 rfl Tryd.underlying30 Tryd.underlying9 infoB rfl HO.out p rfl ?d1 HS.out ?_)
  case d1 => have := K2.out; omega
  intro v3 w3 ho hg _
  rw [← HL3.out] at ho
  replace HB := Lib.hid (HB.out.grown hg HS.out (fun k hk => (HO.out.block hk).1))
  replace HS : Hid (b ≤ w3.heap.size) := Nat.le_trans HS.out hg.size
  have H3' := Lib.hid (H3.out _ _ ho HS.out)
  obtain ⟨q3, c3, rfl⟩ := ho.shape
  clear ho hg H3
  go_wp2_with fail
  refine H3'.out.mono ?_
  rintro e w4 ⟨v4, rfl, ho, hbe⟩
  replace HB := Lib.hid (HB.out.trans hbe)
  replace HO := Lib.hid ho
  clear ho hbe H3'
  go_wp2_with (with_reducible refine wpList_owned_string rfl 30 9 _ rfl Tryd.underlying30 Tryd.underlying5 Tryd.underlying9 rfl HO.out ?_)
  rw [K4.out]
  go_wp2_with fail
  go_ret2
  exact ⟨rfl, HB.out⟩
end Go.Proofs.YtamaefnlicloaaaDoor
