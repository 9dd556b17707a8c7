/- Numbers in digits of sixteen bits: products, comparing, one bit more. No program in sight. -/
import Derived.Test.YtjlhckgokdjajaaRoots
namespace Go.Proofs.Ytjlhckgokdjajaa.Sha
/-- The number whose digits are f 0, .., f (n - 1), the lowest first. -/
def V (f : Nat → Nat) : Nat → Nat
  | 0 => 0
  | n + 1 => V f n + f n * 65536 ^ n
theorem V_succ (f : Nat → Nat) (n : Nat) : V f (n + 1) = V f n + f n * 65536 ^ n := rfl
theorem V_congr {f g : Nat → Nat} : ∀ (n : Nat), (∀ j, j < n → f j = g j) → V f n = V g n
  | 0, _ => rfl
  | n + 1, h => by rw [V_succ, V_succ, V_congr n (fun j hj => h j (by omega)), h n (by omega)]
theorem V_lt {f : Nat → Nat} : ∀ (n : Nat), (∀ j, j < n → f j < 65536) → V f n < 65536 ^ n
  | 0, _ => by simp [V]
  | n + 1, h => by
    have h1 := V_lt n (fun j hj => h j (by omega))
    have h2 : f n * 65536 ^ n ≤ 65535 * 65536 ^ n := Nat.mul_le_mul_right _ (by have := h n (by omega); omega)
    rw [V_succ, Nat.pow_succ]
    omega
/-- The number f, but for digit i, which is v. -/
def upd (f : Nat → Nat) (i v : Nat) : Nat → Nat := fun j => if j = i then v else f j
theorem V_upd (f : Nat → Nat) (i v : Nat) : ∀ (n : Nat), i < n → V (upd f i v) n + f i * 65536 ^ i = V f n + v * 65536 ^ i
  | 0, h => by omega
  | n + 1, h => by
    rw [V_succ, V_succ]
    by_cases e : i = n
    · subst e
      have h1 : V (upd f i v) i = V f i := V_congr i (fun j hj => by unfold upd; rw [if_neg (by omega)])
      have h2 : upd f i v i = v := by unfold upd; rw [if_pos rfl]
      rw [h1, h2]; omega
    · have ih := V_upd f i v n (by omega)
      have h2 : upd f i v n = f n := by unfold upd; rw [if_neg (by omega)]
      rw [h2]; omega
theorem upd_lt {f : Nat → Nat} {i v : Nat} {N : Nat} (h : ∀ j, j < N → f j < 65536) (hv : v < 65536) : ∀ j, j < N → upd f i v j < 65536 := by
  intro j hj
  unfold upd
  split
  · exact hv
  · exact h j hj
/-- One step of a row of the product. -/
theorem mul_step (f : Nat → Nat) (N p c a b Q W : Nat) (hp : p < N) (h : V f N + c * 65536 ^ p = Q + a * W) :
    V (upd f p ((c + f p + a * b) % 65536)) N + (c + f p + a * b) / 65536 * 65536 ^ (p + 1) = Q + a * W + a * b * 65536 ^ p := by
  have h1 := V_upd f p ((c + f p + a * b) % 65536) N hp
  obtain ⟨s, hs⟩ : ∃ s, s = c + f p + a * b := ⟨_, rfl⟩
  rw [← hs] at h1 ⊢
  have h2 := Nat.div_add_mod s 65536
  have h3 : s % 65536 * 65536 ^ p + s / 65536 * 65536 ^ (p + 1) = s * 65536 ^ p := by
    rw [Nat.pow_succ, ← Nat.mul_assoc, Nat.mul_right_comm, ← Nat.add_mul]
    congr 1
    omega
  have h4 : s * 65536 ^ p = c * 65536 ^ p + f p * 65536 ^ p + a * b * 65536 ^ p := by rw [hs, Nat.add_mul, Nat.add_mul]
  omega
theorem carry_lt {c x a b : Nat} (hc : c < 65536) (hx : x < 65536) (ha : a < 65536) (hb : b < 65536) : c + x + a * b < 4294967296 ∧ (c + x + a * b) / 65536 < 65536 := by
  have h : a * b ≤ 65535 * 65535 := Nat.mul_le_mul (by omega) (by omega)
  omega
/-- The last digit of a row of the product. -/
theorem mul_row (f : Nat → Nat) (N i lb c Q : Nat) (hp : i + lb < N) (h0 : f (i + lb) = 0) (h : V f N + c * 65536 ^ (i + lb) = Q) : V (upd f (i + lb) c) N = Q := by
  have h1 := V_upd f (i + lb) c N hp
  rw [h0] at h1
  omega
/-- The product's rows, as far as row i; row i, as far as digit k. -/
structure MO (fa fb : Nat → Nat) (la lb i : Nat) (f : Nat → Nat) : Prop where
  d : ∀ j, j < la + lb → f j < 65536
  z : ∀ j, i + lb ≤ j → j < la + lb → f j = 0
  v : V f (la + lb) = V fa i * V fb lb
structure MI (fa fb : Nat → Nat) (la lb i k c : Nat) (f : Nat → Nat) : Prop where
  cl : c < 65536
  d : ∀ j, j < la + lb → f j < 65536
  z : ∀ j, i + lb ≤ j → j < la + lb → f j = 0
  v : V f (la + lb) + c * 65536 ^ (i + k) = V fa i * V fb lb + fa i * (V fb k * 65536 ^ i)
section
variable {fa fb f : Nat → Nat} {la lb i k c : Nat}
theorem MO.start (h : MO fa fb la lb i f) : MI fa fb la lb i 0 0 f := ⟨by decide, h.d, h.z, by rw [h.v]; simp [V]⟩
theorem MI.step (h : MI fa fb la lb i k c f) (hi : i < la) (hk : k < lb) (ha : fa i < 65536) (hb : fb k < 65536) :
    MI fa fb la lb i (k + 1) ((c + f (i + k) + fa i * fb k) / 65536) (upd f (i + k) ((c + f (i + k) + fa i * fb k) % 65536)) := by
  have h1 := mul_step f (la + lb) (i + k) c (fa i) (fb k) _ _ (by omega) h.v
  refine ⟨(carry_lt h.cl (h.d _ (by omega)) ha hb).2, upd_lt h.d (Nat.mod_lt _ (by decide)), fun j hj hj2 => ?_, ?_⟩
  · unfold upd; rw [if_neg (by omega)]; exact h.z j hj hj2
  · rw [show i + (k + 1) = i + k + 1 by omega, h1, V_succ, Nat.add_mul, Nat.mul_add, Nat.add_assoc]
    congr 2
    rw [Nat.pow_add, Nat.mul_assoc, Nat.mul_assoc, Nat.mul_comm (65536 ^ i)]
theorem MI.finish (h : MI fa fb la lb i lb c f) (hi : i < la) : MO fa fb la lb (i + 1) (upd f (i + lb) c) := by
  refine ⟨upd_lt h.d h.cl, fun j hj hj2 => ?_, ?_⟩
  · unfold upd; rw [if_neg (by omega)]; exact h.z j (by omega) hj2
  · rw [mul_row f (la + lb) i lb c _ (by omega) (h.z _ (Nat.le_refl _) (by omega)) h.v, V_succ, Nat.add_mul]
    congr 1
    rw [Nat.mul_assoc, Nat.mul_comm (65536 ^ i)]
end
theorem V_zero : ∀ (n : Nat), V (fun _ => 0) n = 0
  | 0 => rfl
  | n + 1 => by rw [V_succ, V_zero n]; simp
/-- What is compared with: p at digit o. -/
theorem V_one (p o : Nat) : ∀ (n : Nat), V (fun j => if j = o then p else 0) n = if o < n then p * 65536 ^ o else 0
  | 0 => by simp [V]
  | n + 1 => by
    rw [V_succ, V_one p o n]
    by_cases e : n = o
    · subst e; simp
    · by_cases h : o < n
      · rw [if_pos h, if_neg e, if_pos (by omega)]; simp
      · rw [if_neg h, if_neg e, if_neg (by omega)]; simp
/-- The first digit that differs decides. -/
theorem V_cmp {f t : Nat → Nat} {N i : Nat} (he : V f N + V t (i + 1) = V t N + V f (i + 1)) (hf : ∀ j, j < i + 1 → f j < 65536) (ht : ∀ j, j < i + 1 → t j < 65536) :
    (t i < f i → V t N < V f N) ∧ (f i < t i → V f N < V t N) := by
  rw [V_succ, V_succ] at he
  have h1 := V_lt i (fun j hj => hf j (by omega))
  have h2 := V_lt i (fun j hj => ht j (by omega))
  constructor
  · intro h
    have : (t i + 1) * 65536 ^ i ≤ f i * 65536 ^ i := Nat.mul_le_mul_right _ (by omega)
    rw [Nat.add_mul, Nat.one_mul] at this
    omega
  · intro h
    have : (f i + 1) * 65536 ^ i ≤ t i * 65536 ^ i := Nat.mul_le_mul_right _ (by omega)
    rw [Nat.add_mul, Nat.one_mul] at this
    omega
/-- Digit j of X. -/
def dig (X j : Nat) : Nat := X / 65536 ^ j % 65536
theorem dig_lt (X j : Nat) : dig X j < 65536 := Nat.mod_lt _ (by decide)
theorem V_dig (X : Nat) : ∀ (n : Nat), V (dig X) n = X % 65536 ^ n
  | 0 => by simp [V, Nat.mod_one]
  | n + 1 => by
    rw [V_succ, V_dig X n, Nat.pow_succ]
    unfold dig
    rw [Nat.mod_mul]
    rw [Nat.mul_comm (X / 65536 ^ n % 65536)]
theorem V_dig_all (X n : Nat) (h : X < 65536 ^ n) : V (dig X) n = X := by rw [V_dig, Nat.mod_eq_of_lt h]
theorem pow16 (j : Nat) : 65536 ^ j = 2 ^ (16 * j) := by rw [Nat.pow_mul]
/-- A bit more, above bits that are all 0. -/
theorem dig_bit (X k : Nat) (h : X % 2 ^ (k + 1) = 0) (j : Nat) : dig (X + 2 ^ k) j = if j = k / 16 then dig X j + 2 ^ (k % 16) else dig X j := by
  obtain ⟨q, rfl⟩ := Nat.dvd_of_mod_eq_zero h
  unfold dig
  rw [pow16]
  have hk : k = 16 * (k / 16) + k % 16 := by omega
  obtain ⟨m, hm⟩ : ∃ m, m = k / 16 := ⟨_, rfl⟩
  obtain ⟨r, hr⟩ : ∃ r, r = k % 16 := ⟨_, rfl⟩
  have hr16 : r < 16 := by omega
  rw [← hm, ← hr] at hk ⊢
  by_cases e : j = m
  · rw [if_pos e]
    subst e
    have e1 : 2 ^ (k + 1) * q + 2 ^ k = 2 ^ (16 * j) * (2 ^ (r + 1) * q + 2 ^ r) := by
      rw [Nat.mul_add, ← Nat.mul_assoc, ← Nat.pow_add, ← Nat.pow_add, ← Nat.add_assoc, ← hk]
    have e2 : 2 ^ (k + 1) * q = 2 ^ (16 * j) * (2 ^ (r + 1) * q) := by
      rw [← Nat.mul_assoc, ← Nat.pow_add, ← Nat.add_assoc, ← hk]
    rw [e1, e2, Nat.mul_div_cancel_left _ (Nat.two_pow_pos _), Nat.mul_div_cancel_left _ (Nat.two_pow_pos _)]
    obtain ⟨s, hs⟩ : ∃ s, s = 15 - r := ⟨_, rfl⟩
    have h16 : 65536 = 2 ^ (r + 1) * 2 ^ s := by rw [← Nat.pow_add, show r + 1 + s = 16 by omega]
    have e3 : (2 ^ (r + 1) * q) % 65536 = 2 ^ (r + 1) * (q % 2 ^ s) := by rw [h16, Nat.mul_mod_mul_left]
    have h5 : 2 ^ (r + 1) * (q % 2 ^ s) + 2 ^ r < 65536 := by
      have h6 : q % 2 ^ s + 1 ≤ 2 ^ s := Nat.mod_lt _ (Nat.two_pow_pos _)
      have h7 : 2 ^ (r + 1) * (q % 2 ^ s + 1) ≤ 2 ^ (r + 1) * 2 ^ s := Nat.mul_le_mul_left _ h6
      rw [← h16, Nat.mul_add, Nat.mul_one] at h7
      have h8 : 2 ^ (r + 1) = 2 ^ r * 2 := Nat.pow_succ ..
      have h9 := Nat.two_pow_pos r
      omega
    rw [Nat.add_mod, e3, Nat.mod_eq_of_lt (show 2 ^ r < 65536 by omega), Nat.mod_eq_of_lt h5]
  · rw [if_neg e]
    by_cases hlt : j < m
    · obtain ⟨d, hd⟩ : ∃ d, d = k - 16 * (j + 1) := ⟨_, rfl⟩
      have hkd : k = 16 * j + (16 + d) := by omega
      have e1 : 2 ^ (k + 1) * q + 2 ^ k = 2 ^ (16 * j) * (65536 * (2 ^ (d + 1) * q + 2 ^ d)) := by
        rw [hkd, show (65536 : Nat) = 2 ^ 16 from rfl, Nat.mul_add, Nat.mul_add, ← Nat.mul_assoc, ← Nat.mul_assoc, ← Nat.pow_add, ← Nat.pow_add, ← Nat.pow_add, ← Nat.pow_add]
        rw [show 16 * j + 16 + (d + 1) = 16 * j + (16 + d) + 1 by omega]
      have e2 : 2 ^ (k + 1) * q = 2 ^ (16 * j) * (65536 * (2 ^ (d + 1) * q)) := by
        rw [hkd, show (65536 : Nat) = 2 ^ 16 from rfl, ← Nat.mul_assoc, ← Nat.mul_assoc, ← Nat.pow_add, ← Nat.pow_add]
        rw [show 16 * j + 16 + (d + 1) = 16 * j + (16 + d) + 1 by omega]
      rw [e1, e2, Nat.mul_div_cancel_left _ (Nat.two_pow_pos _), Nat.mul_div_cancel_left _ (Nat.two_pow_pos _), Nat.mul_mod_right, Nat.mul_mod_right]
    · have hkd : k + 1 ≤ 16 * j := by omega
      obtain ⟨d, hd⟩ : ∃ d, d = 16 * j - (k + 1) := ⟨_, rfl⟩
      have e1 : 16 * j = (k + 1) + d := by omega
      have e2 : (2 ^ (k + 1) * q + 2 ^ k) / 2 ^ (k + 1) = q := by
        rw [Nat.add_comm, Nat.add_mul_div_left _ _ (Nat.two_pow_pos _), Nat.div_eq_of_lt (Nat.pow_lt_pow_right (by decide) (by omega)), Nat.zero_add]
      rw [e1, Nat.pow_add 2 (k + 1) d, ← Nat.div_div_eq_div_mul, ← Nat.div_div_eq_div_mul, e2, Nat.mul_div_cancel_left _ (Nat.two_pow_pos _)]
end Go.Proofs.Ytjlhckgokdjajaa.Sha
