/- Plain facts on the state behind bytes that come in pieces. No program in sight. -/
import Derived.Test.YtilpbjcbffbjeaaGreatDoorHParts
namespace Go.Proofs.YtilpbjcbffbjeaaGreatDoor.Sha
theorem stateN_take (k : Kind) (t u : List Nat) (n : Nat) (h : n * k.block ≤ t.length) : stateN k (t ++ u) n = stateN k t n := by
  induction n with
  | zero => rfl
  | succ n ih =>
    have h1 : n * k.block + k.block ≤ t.length := by rw [Nat.add_mul, Nat.one_mul] at h; exact h
    rw [stateN, stateN, ih (by omega)]
    congr 1
    rw [List.drop_append_of_le_length (by omega), List.take_append_of_le_length (by rw [List.length_drop]; omega)]
theorem stateOf_short (k : Kind) (t p : List Nat) (h : t.length % k.block + p.length < k.block) : stateOf k (t ++ p) = stateOf k t := by
  unfold stateOf
  have e : (t ++ p).length / k.block = t.length / k.block := by
    rw [List.length_append]
    have h1 := Nat.div_add_mod t.length k.block
    refine (Nat.div_eq_of_lt_le ?_ ?_)
    · rw [Nat.mul_comm]; omega
    · rw [Nat.mul_comm, Nat.mul_add]; omega
  rw [e]
  exact stateN_take k t p _ (Nat.div_mul_le_self _ _)
theorem stateOf_full (k : Kind) (hb : 0 < k.block) (t p : List Nat) (h : t.length % k.block + p.length = k.block) :
    stateOf k (t ++ p) = next k (stateOf k t) ((t ++ p).drop (t.length - t.length % k.block)) := by
  have h1 := Nat.div_add_mod t.length k.block
  have e : (t ++ p).length / k.block = t.length / k.block + 1 := by
    rw [List.length_append]
    refine (Nat.div_eq_of_lt_le ?_ ?_)
    · rw [Nat.mul_comm, Nat.mul_add]; omega
    · rw [Nat.mul_comm, Nat.mul_add, Nat.mul_add]; omega
  have e2 : t.length / k.block * k.block = t.length - t.length % k.block := by rw [Nat.mul_comm]; omega
  show stateN k (t ++ p) ((t ++ p).length / k.block) = _
  rw [e, stateN, stateN_take k t p _ (Nat.div_mul_le_self _ _), e2]
  congr 1
  refine List.take_of_length_le ?_
  rw [List.length_drop, List.length_append]
  omega
theorem stateOf_nil (k : Kind) : stateOf k [] = k.init := by simp [stateOf, stateN]
theorem length_stateN (k : Kind) (hi : k.init.length = 8) (t : List Nat) (n : Nat) : (stateN k t n).length = 8 := by
  cases n with
  | zero => exact hi
  | succ n => exact length_next _ _ _
theorem stateN_lt (k : Kind) (hi : ∀ j, k.init.getD j 0 < 2 ^ k.w) (t : List Nat) (n j : Nat) : (stateN k t n).getD j 0 < 2 ^ k.w := by
  cases n with
  | zero => exact hi j
  | succ n => exact next_lt _ _ _ _
theorem init32_lt (j : Nat) : k32.init.getD j 0 < 2 ^ 32 := by
  by_cases h : j < 8
  · have : ∀ j : Fin 8, k32.init.getD j.val 0 < 2 ^ 32 := by decide
    exact this ⟨j, h⟩
  · rw [getD_out (by simp [k32]; omega)]; decide
theorem init64_lt (j : Nat) : k64.init.getD j 0 < 2 ^ 64 := by
  by_cases h : j < 8
  · have : ∀ j : Fin 8, k64.init.getD j.val 0 < 2 ^ 64 := by decide
    exact this ⟨j, h⟩
  · rw [getD_out (by simp [k64]; omega)]; decide
theorem stateOf_lt32 (t : List Nat) (j : Nat) : (stateOf k32 t).getD j 0 < 2 ^ 32 := stateN_lt k32 init32_lt t _ j
theorem stateOf_lt64 (t : List Nat) (j : Nat) : (stateOf k64 t).getD j 0 < 2 ^ 64 := stateN_lt k64 init64_lt t _ j
theorem length_stateOf32 (t : List Nat) : (stateOf k32 t).length = 8 := length_stateN k32 rfl t _
theorem length_stateOf64 (t : List Nat) : (stateOf k64 t).length = 8 := length_stateN k64 rfl t _
theorem told_lt (k : Kind) (s : List Nat) : ∀ c ∈ told k s, c < 256 := by
  intro c hc
  have := List.mem_of_mem_take hc
  obtain ⟨x, _, hx⟩ := List.mem_flatMap.1 this
  unfold bytesOf at hx
  obtain ⟨i, _, rfl⟩ := List.mem_map.1 hx
  exact Nat.mod_lt _ (by decide)
theorem length_flatMap_const (w : Nat) (s : List Nat) : (s.flatMap (bytesOf w)).length = s.length * (w / 8) := by
  induction s with
  | nil => simp
  | cons x s ih => rw [List.flatMap_cons, List.length_append, ih]; simp [bytesOf, Nat.add_mul, Nat.add_comm]
theorem length_sum32 (t : List Nat) : (sum k32 t).length = 32 := by
  unfold sum told
  rw [List.length_take, length_flatMap_const, length_stateOf32]
  rfl
theorem length_sum64 (t : List Nat) : (sum k64 t).length = 48 := by
  unfold sum told
  rw [List.length_take, length_flatMap_const, length_stateOf64]
  rfl
theorem sum_lt (k : Kind) (t : List Nat) : ∀ c ∈ sum k t, c < 256 := told_lt k _
theorem bytesOf_lt (w x : Nat) : ∀ c ∈ bytesOf w x, c < 256 := by
  intro c hc
  obtain ⟨i, _, rfl⟩ := List.mem_map.1 hc
  exact Nat.mod_lt _ (by decide)
theorem pad_lt (k : Kind) (n : Nat) : ∀ c ∈ pad k n, c < 256 := by
  intro c hc
  unfold pad at hc
  simp only [List.mem_cons, List.mem_append, List.mem_replicate] at hc
  rcases hc with rfl | ⟨_, rfl⟩ | ⟨_, rfl⟩ | h
  · omega
  · omega
  · omega
  · exact bytesOf_lt _ _ c h
end Go.Proofs.YtilpbjcbffbjeaaGreatDoor.Sha
