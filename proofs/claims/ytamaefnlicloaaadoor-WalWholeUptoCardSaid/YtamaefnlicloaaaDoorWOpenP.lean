/- What Open picks of two files, in plain terms; errors.Join of none. -/
import Derived.Test.YtamaefnlicloaaaDoorWScan
import Derived.Test.YtamaefnlicloaaaDoorWLog2
namespace Go.Proofs.YtamaefnlicloaaaDoor
set_option linter.unusedVariables false
set_option maxRecDepth 100000
open Go.RowKit
structure Pk where
  counts : Nat
  gen : Nat
  snap : List Nat
  bytes : ByteArray
  fin : Nat
def Pk.zero (f : Nat) : Pk := ⟨f, 0, [], ⟨#[]⟩, 0⟩
def Pk.next (p : Pk) (i : Nat) (s : ByteArray) : Pk := match whole (bs s) with
  | some (n, q) => if p.gen < n then ⟨i, n, q, s, 19 + q.length⟩ else p
  | none => p
theorem Pk.next_none (p : Pk) (i : Nat) (s : ByteArray) (h : whole (bs s) = none) : p.next i s = p := by unfold Pk.next; rw [h]
theorem Pk.next_more (p : Pk) (i : Nat) (s : ByteArray) {n : Nat} {q : List Nat} (h : whole (bs s) = some (n, q)) (hn : p.gen < n) : p.next i s = ⟨i, n, q, s, 19 + q.length⟩ := by unfold Pk.next; rw [h]; dsimp only; rw [if_pos hn]
theorem Pk.next_less (p : Pk) (i : Nat) (s : ByteArray) {n : Nat} {q : List Nat} (h : whole (bs s) = some (n, q)) (hn : ¬ p.gen < n) : p.next i s = p := by unfold Pk.next; rw [h]; dsimp only; rw [if_neg hn]
def pkAt (f : Nat) (a c : ByteArray) : Nat → Pk
  | 0 => Pk.zero f
  | 1 => (Pk.zero f).next f a
  | _ => ((Pk.zero f).next f a).next (f + 1) c
theorem Pk.next_counts (p : Pk) (i f : Nat) (s : ByteArray) (h : p.counts = f ∨ p.counts = f + 1) (hi : i = f ∨ i = f + 1) : (p.next i s).counts = f ∨ (p.next i s).counts = f + 1 := by
  unfold Pk.next
  split
  · split
    · exact hi
    · exact h
  · exact h
theorem Pk.next_fin (p : Pk) (i : Nat) (s : ByteArray) (h : p.fin ≤ p.bytes.size) : (p.next i s).fin ≤ (p.next i s).bytes.size := by
  unfold Pk.next
  split
  · rename_i n q hw
    split
    · have := length_whole (bs_lt s) hw
      rw [length_bs] at this
      exact this
    · exact h
  · exact h
theorem pkAt_counts (f : Nat) (a c : ByteArray) (i : Nat) : (pkAt f a c i).counts = f ∨ (pkAt f a c i).counts = f + 1 := by
  match i with
  | 0 => exact .inl rfl
  | 1 => exact Pk.next_counts _ _ _ _ (.inl rfl) (.inl rfl)
  | _ + 2 => exact Pk.next_counts _ _ _ _ (Pk.next_counts _ _ _ _ (.inl rfl) (.inl rfl)) (.inr rfl)
theorem pkAt_fin (f : Nat) (a c : ByteArray) (i : Nat) : (pkAt f a c i).fin ≤ (pkAt f a c i).bytes.size := by
  match i with
  | 0 => exact Nat.le_refl _
  | 1 => exact Pk.next_fin _ _ _ (Nat.le_refl _)
  | _ + 2 => exact Pk.next_fin _ _ _ (Pk.next_fin _ _ _ (Nat.le_refl _))
theorem pkAt_size (f : Nat) (a c : ByteArray) (M : Nat) (ha : a.size ≤ M) (hc : c.size ≤ M) (i : Nat) : (pkAt f a c i).bytes.size ≤ M := by
  have h1 : ∀ (p : Pk) (i : Nat) (s : ByteArray), p.bytes.size ≤ M → s.size ≤ M → (p.next i s).bytes.size ≤ M := by
    intro p i s hp hs
    unfold Pk.next
    split
    · split
      · exact hs
      · exact hp
    · exact hp
  match i with
  | 0 => exact Nat.zero_le _
  | 1 => exact h1 _ _ _ (Nat.zero_le _) ha
  | _ + 2 => exact h1 _ _ _ (h1 _ _ _ (Nat.zero_le _) ha) hc
theorem pkAt_gen (f : Nat) (a c : ByteArray) (i : Nat) : (pkAt f a c i).gen ≤ 1099511627776 := by
  have h1 : ∀ (p : Pk) (i : Nat) (s : ByteArray), p.gen ≤ 1099511627776 → (p.next i s).gen ≤ 1099511627776 := by
    intro p i s hp
    unfold Pk.next
    split
    · rename_i n q hw
      split
      · exact (whole_some (bs_lt s) hw).2.1
      · exact hp
    · exact hp
  match i with
  | 0 => exact Nat.zero_le _
  | 1 => exact h1 _ _ _ (Nat.zero_le _)
  | _ + 2 => exact h1 _ _ _ (h1 _ _ _ (Nat.zero_le _))
/-- Whole at the head of bytes. -/
theorem wholeAt_zero (s : ByteArray) : wholeAt s 0 = (whole (bs s)).map fun x => (x.1, x.2, 19 + x.2.length) := by
  unfold wholeAt
  rw [if_neg (by omega)]
  simp
theorem wholeAt_nat (s : ByteArray) (a : Nat) (h : a ≤ s.size) : wholeAt s (a : Nat) = (whole ((bs s).drop a)).map fun x => (x.1, x.2, a + (19 + x.2.length)) := by
  unfold wholeAt; rw [if_neg (by omega), Int.toNat_natCast]
set_option maxHeartbeats 800000 in
theorem eJoinW (jb : Nat) (w : World) (h0 : w.cell? ⟨jb, 0, none⟩ = some .nilIface) (h1 : w.cell? ⟨jb, 1, none⟩ = some .nilIface) :
    Calls Tryd.prog 45 #[.slice (some ⟨jb, 0, none⟩) 2 2] w fun e w' => e = .returned .nilIface ∧ w' = w := by
  go_enter Tryd.func45, Tryd.ntmps45
  go_wp2_with fail
  go_loopw [3, 11] (fun v3 v11 wr => ∃ i : Nat, i ≤ 2 ∧ v11 = .int .i64 (i : Nat) ∧ v3 = .int .i64 0 ∧ wr = w) (fun _ v _ => (2 - intOf v).toNat)
  case atStart => exact ⟨0, by omega, rfl, rfl, rfl⟩
  case round =>
    obtain ⟨i, hi, rfl, rfl, rfl⟩ := hrel
    rcases i with _ | _ | i
    · go_wp2_with fail
      exact ⟨⟨1, by omega, rfl, rfl, trivial⟩, by simp [intOf]⟩
    · go_wp2_with fail
      exact ⟨⟨2, by omega, rfl, rfl, trivial⟩, by simp [intOf]⟩
    · obtain rfl : i = 0 := by omega
      go_wp2_with fail
      go_ret
      exact ⟨rfl, rfl⟩
end Go.Proofs.YtamaefnlicloaaaDoor
