/- The roots of the primes, in plain numbers: the first bits behind the point, found bit by bit; they are the two sums' constants. No program in sight.
   Numbers in digits of sixteen bits: products, comparing, one bit more. No program in sight.
   The walks of times and above, over digits of sixteen bits.
   The walk of Root: the first bits behind the point of a root.
   Slices of numbers of 64 bits that the call made; the walk of Primes.
   The walks of the reference's cut and ror, whatever the kind's other cells hold.
   The walk of the reference's bytes.
   The walk of Of: a kind of the reference. -/
import Derived.Test.YtilpbjcbffbjeaaGreatDoorHSpec
import Derived.Test.YtilpbjcbffbjeaaGreatDoorHSmall
import Derived.Test.YtilpbjcbffbjeaaGreatDoorPkA
import Derived.Test.YtilpbjcbffbjeaaGreatDoorHMix
import Derived.Test.YtilpbjcbffbjeaaGreatDoorHTold
import Derived.Deep.RegionHeld3
import Derived.Shelf.Abstract
import Derived.Deep.RegionLaw
import Derived.Deep.DeepCutAuto
import Derived.Deep.AppendLies
import Derived.StillTactics
namespace Go.Proofs.YtilpbjcbffbjeaaGreatDoor.Sha
/-- One bit more, if the power stays below. -/
def rootStep (p n bits X k : Nat) : Nat := if p * 2 ^ (bits * n) < (X + 2 ^ k) ^ n then X else X + 2 ^ k
/-- The bits from k - 1 down. -/
def rootFrom (p n bits : Nat) : Nat → Nat → Nat
  | 0, X => X
  | k + 1, X => rootFrom p n bits k (rootStep p n bits X k)
def root (p n bits : Nat) : Nat := rootFrom p n bits (bits + 9) 0 % 2 ^ bits
/-- The primes below p, by trial. -/
def prB : Nat → List Nat
  | 0 => []
  | p + 1 => if 2 ≤ p ∧ (prB p).all (fun q => p % q != 0) = true then prB p ++ [p] else prB p
def prL (l : List Nat) : Nat → Nat → List Nat
  | 0, _ => l
  | f + 1, p => prL (if l.all (fun q => p % q != 0) then l ++ [p] else l) f (p + 1)
def primes80 : List Nat := [2, 3, 5, 7, 11, 13, 17, 19, 23, 29, 31, 37, 41, 43, 47, 53, 59, 61, 67, 71, 73, 79, 83, 89, 97, 101, 103, 107, 109, 113, 127, 131, 137, 139, 149, 151, 157, 163, 167, 173, 179, 181, 191, 193, 197, 199, 211, 223, 227, 229, 233, 239, 241, 251, 257, 263, 269, 271, 277, 281, 283, 293, 307, 311, 313, 317, 331, 337, 347, 349, 353, 359, 367, 373, 379, 383, 389, 397, 401, 409]
theorem prL_all : prL [] 408 2 = primes80 := by decide +kernel
theorem keys_root32 : keys32 = (primes80.take 64).map (fun p => root p 3 32) := by decide +kernel
theorem keys_root64 : keys64 = primes80.map (fun p => root p 3 64) := by decide +kernel
theorem init_root32 : k32.init = (primes80.take 8).map (fun p => root p 2 32) := by decide +kernel
theorem init_root64 : k64.init = ((primes80.drop 8).take 8).map (fun p => root p 2 64) := by decide +kernel
/-- The primes below p. -/
def primesBelow (p : Nat) : List Nat := primes80.filter (fun q => decide (q < p))
def isPrimeBy (l : List Nat) (p : Nat) : Bool := l.all (fun q => p % q != 0)
theorem primesBelow_all : ∀ p ∈ List.range 410, 2 ≤ p → (primesBelow p).length < 80 ∧ primesBelow (p + 1) = if isPrimeBy (primesBelow p) p then primesBelow p ++ [p] else primesBelow p := by decide +kernel
theorem primesBelow_end : primesBelow 410 = primes80 := by decide +kernel
theorem primesBelow_two : primesBelow 2 = [] := by decide +kernel
theorem primes80_pos : ∀ q ∈ primes80, 0 < q ∧ q < 512 := by decide +kernel
theorem primesBelow_step {p : Nat} (h2 : 2 ≤ p) (h : p < 410) : (primesBelow p).length < 80 ∧ primesBelow (p + 1) = if isPrimeBy (primesBelow p) p then primesBelow p ++ [p] else primesBelow p :=
  primesBelow_all p (List.mem_range.2 h) h2
theorem primesBelow_pos {p q : Nat} (h : q ∈ primesBelow p) : 0 < q ∧ q < 512 := primes80_pos q (List.mem_filter.1 h).1
end Go.Proofs.YtilpbjcbffbjeaaGreatDoor.Sha
namespace Go.Proofs.YtilpbjcbffbjeaaGreatDoor.Sha
/-- The number whose digits are f 0, .., f (n - 1), the lowest first. -/
def V (f : Nat → Nat) : Nat → Nat
  | 0 => 0
  | n + 1 => V f n + f n * 65536 ^ n
theorem V_succ (f : Nat → Nat) (n : Nat) : V f (n + 1) = V f n + f n * 65536 ^ n := rfl
theorem V_congr {f g : Nat → Nat} : ∀ (n : Nat), (∀ j, j < n → f j = g j) → V f n = V g n
  | 0, _ => rfl
  | n + 1, h => by rw [V_succ, V_succ, V_congr n (fun j hj => h j (by omega)), h n (by omega)]
theorem V_lt {f : Nat → Nat} : ∀ (n : Nat), (∀ j, j < n → f j < 65536) → V f n < 65536 ^ n
  | 0, _ => by simp [V]
  | n + 1, h => by
    have h1 := V_lt n (fun j hj => h j (by omega))
    have h2 : f n * 65536 ^ n ≤ 65535 * 65536 ^ n := Nat.mul_le_mul_right _ (by have := h n (by omega); omega)
    rw [V_succ, Nat.pow_succ]
    omega
/-- The number f, but for digit i, which is v. -/
def upd (f : Nat → Nat) (i v : Nat) : Nat → Nat := fun j => if j = i then v else f j
theorem V_upd (f : Nat → Nat) (i v : Nat) : ∀ (n : Nat), i < n → V (upd f i v) n + f i * 65536 ^ i = V f n + v * 65536 ^ i
  | 0, h => by omega
  | n + 1, h => by
    rw [V_succ, V_succ]
    by_cases e : i = n
    · subst e
      have h1 : V (upd f i v) i = V f i := V_congr i (fun j hj => by unfold upd; rw [if_neg (by omega)])
      have h2 : upd f i v i = v := by unfold upd; rw [if_pos rfl]
      rw [h1, h2]; omega
    · have ih := V_upd f i v n (by omega)
      have h2 : upd f i v n = f n := by unfold upd; rw [if_neg (by omega)]
      rw [h2]; omega
theorem upd_lt {f : Nat → Nat} {i v : Nat} {N : Nat} (h : ∀ j, j < N → f j < 65536) (hv : v < 65536) : ∀ j, j < N → upd f i v j < 65536 := by
  intro j hj
  unfold upd
  split
  · exact hv
  · exact h j hj
/-- One step of a row of the product. -/
theorem mul_step (f : Nat → Nat) (N p c a b Q W : Nat) (hp : p < N) (h : V f N + c * 65536 ^ p = Q + a * W) :
    V (upd f p ((c + f p + a * b) % 65536)) N + (c + f p + a * b) / 65536 * 65536 ^ (p + 1) = Q + a * W + a * b * 65536 ^ p := by
  have h1 := V_upd f p ((c + f p + a * b) % 65536) N hp
  obtain ⟨s, hs⟩ : ∃ s, s = c + f p + a * b := ⟨_, rfl⟩
  rw [← hs] at h1 ⊢
  have h2 := Nat.div_add_mod s 65536
  have h3 : s % 65536 * 65536 ^ p + s / 65536 * 65536 ^ (p + 1) = s * 65536 ^ p := by
    rw [Nat.pow_succ, ← Nat.mul_assoc, Nat.mul_right_comm, ← Nat.add_mul]
    congr 1
    omega
  have h4 : s * 65536 ^ p = c * 65536 ^ p + f p * 65536 ^ p + a * b * 65536 ^ p := by rw [hs, Nat.add_mul, Nat.add_mul]
  omega
theorem carry_lt {c x a b : Nat} (hc : c < 65536) (hx : x < 65536) (ha : a < 65536) (hb : b < 65536) : c + x + a * b < 4294967296 ∧ (c + x + a * b) / 65536 < 65536 := by
  have h : a * b ≤ 65535 * 65535 := Nat.mul_le_mul (by omega) (by omega)
  omega
/-- The last digit of a row of the product. -/
theorem mul_row (f : Nat → Nat) (N i lb c Q : Nat) (hp : i + lb < N) (h0 : f (i + lb) = 0) (h : V f N + c * 65536 ^ (i + lb) = Q) : V (upd f (i + lb) c) N = Q := by
  have h1 := V_upd f (i + lb) c N hp
  rw [h0] at h1
  omega
/-- The product's rows, as far as row i; row i, as far as digit k. -/
structure MO (fa fb : Nat → Nat) (la lb i : Nat) (f : Nat → Nat) : Prop where
  d : ∀ j, j < la + lb → f j < 65536
  z : ∀ j, i + lb ≤ j → j < la + lb → f j = 0
  v : V f (la + lb) = V fa i * V fb lb
structure MI (fa fb : Nat → Nat) (la lb i k c : Nat) (f : Nat → Nat) : Prop where
  cl : c < 65536
  d : ∀ j, j < la + lb → f j < 65536
  z : ∀ j, i + lb ≤ j → j < la + lb → f j = 0
  v : V f (la + lb) + c * 65536 ^ (i + k) = V fa i * V fb lb + fa i * (V fb k * 65536 ^ i)
section
variable {fa fb f : Nat → Nat} {la lb i k c : Nat}
theorem MO.start (h : MO fa fb la lb i f) : MI fa fb la lb i 0 0 f := ⟨by decide, h.d, h.z, by rw [h.v]; simp [V]⟩
theorem MI.step (h : MI fa fb la lb i k c f) (hi : i < la) (hk : k < lb) (ha : fa i < 65536) (hb : fb k < 65536) :
    MI fa fb la lb i (k + 1) ((c + f (i + k) + fa i * fb k) / 65536) (upd f (i + k) ((c + f (i + k) + fa i * fb k) % 65536)) := by
  have h1 := mul_step f (la + lb) (i + k) c (fa i) (fb k) _ _ (by omega) h.v
  refine ⟨(carry_lt h.cl (h.d _ (by omega)) ha hb).2, upd_lt h.d (Nat.mod_lt _ (by decide)), fun j hj hj2 => ?_, ?_⟩
  · unfold upd; rw [if_neg (by omega)]; exact h.z j hj hj2
  · rw [show i + (k + 1) = i + k + 1 by omega, h1, V_succ, Nat.add_mul, Nat.mul_add, Nat.add_assoc]
    congr 2
    rw [Nat.pow_add, Nat.mul_assoc, Nat.mul_assoc, Nat.mul_comm (65536 ^ i)]
theorem MI.finish (h : MI fa fb la lb i lb c f) (hi : i < la) : MO fa fb la lb (i + 1) (upd f (i + lb) c) := by
  refine ⟨upd_lt h.d h.cl, fun j hj hj2 => ?_, ?_⟩
  · unfold upd; rw [if_neg (by omega)]; exact h.z j (by omega) hj2
  · rw [mul_row f (la + lb) i lb c _ (by omega) (h.z _ (Nat.le_refl _) (by omega)) h.v, V_succ, Nat.add_mul]
    congr 1
    rw [Nat.mul_assoc, Nat.mul_comm (65536 ^ i)]
end
theorem V_zero : ∀ (n : Nat), V (fun _ => 0) n = 0
  | 0 => rfl
  | n + 1 => by rw [V_succ, V_zero n]; simp
/-- What is compared with: p at digit o. -/
theorem V_one (p o : Nat) : ∀ (n : Nat), V (fun j => if j = o then p else 0) n = if o < n then p * 65536 ^ o else 0
  | 0 => by simp [V]
  | n + 1 => by
    rw [V_succ, V_one p o n]
    by_cases e : n = o
    · subst e; simp
    · by_cases h : o < n
      · rw [if_pos h, if_neg e, if_pos (by omega)]; simp
      · rw [if_neg h, if_neg e, if_neg (by omega)]; simp
/-- The first digit that differs decides. -/
theorem V_cmp {f t : Nat → Nat} {N i : Nat} (he : V f N + V t (i + 1) = V t N + V f (i + 1)) (hf : ∀ j, j < i + 1 → f j < 65536) (ht : ∀ j, j < i + 1 → t j < 65536) :
    (t i < f i → V t N < V f N) ∧ (f i < t i → V f N < V t N) := by
  rw [V_succ, V_succ] at he
  have h1 := V_lt i (fun j hj => hf j (by omega))
  have h2 := V_lt i (fun j hj => ht j (by omega))
  constructor
  · intro h
    have : (t i + 1) * 65536 ^ i ≤ f i * 65536 ^ i := Nat.mul_le_mul_right _ (by omega)
    rw [Nat.add_mul, Nat.one_mul] at this
    omega
  · intro h
    have : (f i + 1) * 65536 ^ i ≤ t i * 65536 ^ i := Nat.mul_le_mul_right _ (by omega)
    rw [Nat.add_mul, Nat.one_mul] at this
    omega
/-- Digit j of X. -/
def dig (X j : Nat) : Nat := X / 65536 ^ j % 65536
theorem dig_lt (X j : Nat) : dig X j < 65536 := Nat.mod_lt _ (by decide)
theorem V_dig (X : Nat) : ∀ (n : Nat), V (dig X) n = X % 65536 ^ n
  | 0 => by simp [V, Nat.mod_one]
  | n + 1 => by
    rw [V_succ, V_dig X n, Nat.pow_succ]
    unfold dig
    rw [Nat.mod_mul]
    rw [Nat.mul_comm (X / 65536 ^ n % 65536)]
theorem V_dig_all (X n : Nat) (h : X < 65536 ^ n) : V (dig X) n = X := by rw [V_dig, Nat.mod_eq_of_lt h]
theorem pow16 (j : Nat) : 65536 ^ j = 2 ^ (16 * j) := by rw [Nat.pow_mul]
/-- A bit more, above bits that are all 0. -/
theorem dig_bit (X k : Nat) (h : X % 2 ^ (k + 1) = 0) (j : Nat) : dig (X + 2 ^ k) j = if j = k / 16 then dig X j + 2 ^ (k % 16) else dig X j := by
  obtain ⟨q, rfl⟩ := Nat.dvd_of_mod_eq_zero h
  unfold dig
  rw [pow16]
  have hk : k = 16 * (k / 16) + k % 16 := by omega
  obtain ⟨m, hm⟩ : ∃ m, m = k / 16 := ⟨_, rfl⟩
  obtain ⟨r, hr⟩ : ∃ r, r = k % 16 := ⟨_, rfl⟩
  have hr16 : r < 16 := by omega
  rw [← hm, ← hr] at hk ⊢
  by_cases e : j = m
  · rw [if_pos e]
    subst e
    have e1 : 2 ^ (k + 1) * q + 2 ^ k = 2 ^ (16 * j) * (2 ^ (r + 1) * q + 2 ^ r) := by
      rw [Nat.mul_add, ← Nat.mul_assoc, ← Nat.pow_add, ← Nat.pow_add, ← Nat.add_assoc, ← hk]
    have e2 : 2 ^ (k + 1) * q = 2 ^ (16 * j) * (2 ^ (r + 1) * q) := by
      rw [← Nat.mul_assoc, ← Nat.pow_add, ← Nat.add_assoc, ← hk]
    rw [e1, e2, Nat.mul_div_cancel_left _ (Nat.two_pow_pos _), Nat.mul_div_cancel_left _ (Nat.two_pow_pos _)]
    obtain ⟨s, hs⟩ : ∃ s, s = 15 - r := ⟨_, rfl⟩
    have h16 : 65536 = 2 ^ (r + 1) * 2 ^ s := by rw [← Nat.pow_add, show r + 1 + s = 16 by omega]
    have e3 : (2 ^ (r + 1) * q) % 65536 = 2 ^ (r + 1) * (q % 2 ^ s) := by rw [h16, Nat.mul_mod_mul_left]
    have h5 : 2 ^ (r + 1) * (q % 2 ^ s) + 2 ^ r < 65536 := by
      have h6 : q % 2 ^ s + 1 ≤ 2 ^ s := Nat.mod_lt _ (Nat.two_pow_pos _)
      have h7 : 2 ^ (r + 1) * (q % 2 ^ s + 1) ≤ 2 ^ (r + 1) * 2 ^ s := Nat.mul_le_mul_left _ h6
      rw [← h16, Nat.mul_add, Nat.mul_one] at h7
      have h8 : 2 ^ (r + 1) = 2 ^ r * 2 := Nat.pow_succ ..
      have h9 := Nat.two_pow_pos r
      omega
    rw [Nat.add_mod, e3, Nat.mod_eq_of_lt (show 2 ^ r < 65536 by omega), Nat.mod_eq_of_lt h5]
  · rw [if_neg e]
    by_cases hlt : j < m
    · obtain ⟨d, hd⟩ : ∃ d, d = k - 16 * (j + 1) := ⟨_, rfl⟩
      have hkd : k = 16 * j + (16 + d) := by omega
      have e1 : 2 ^ (k + 1) * q + 2 ^ k = 2 ^ (16 * j) * (65536 * (2 ^ (d + 1) * q + 2 ^ d)) := by
        rw [hkd, show (65536 : Nat) = 2 ^ 16 from rfl, Nat.mul_add, Nat.mul_add, ← Nat.mul_assoc, ← Nat.mul_assoc, ← Nat.pow_add, ← Nat.pow_add, ← Nat.pow_add, ← Nat.pow_add]
        rw [show 16 * j + 16 + (d + 1) = 16 * j + (16 + d) + 1 by omega]
      have e2 : 2 ^ (k + 1) * q = 2 ^ (16 * j) * (65536 * (2 ^ (d + 1) * q)) := by
        rw [hkd, show (65536 : Nat) = 2 ^ 16 from rfl, ← Nat.mul_assoc, ← Nat.mul_assoc, ← Nat.pow_add, ← Nat.pow_add]
        rw [show 16 * j + 16 + (d + 1) = 16 * j + (16 + d) + 1 by omega]
      rw [e1, e2, Nat.mul_div_cancel_left _ (Nat.two_pow_pos _), Nat.mul_div_cancel_left _ (Nat.two_pow_pos _), Nat.mul_mod_right, Nat.mul_mod_right]
    · have hkd : k + 1 ≤ 16 * j := by omega
      obtain ⟨d, hd⟩ : ∃ d, d = 16 * j - (k + 1) := ⟨_, rfl⟩
      have e1 : 16 * j = (k + 1) + d := by omega
      have e2 : (2 ^ (k + 1) * q + 2 ^ k) / 2 ^ (k + 1) = q := by
        rw [Nat.add_comm, Nat.add_mul_div_left _ _ (Nat.two_pow_pos _), Nat.div_eq_of_lt (Nat.pow_lt_pow_right (by decide) (by omega)), Nat.zero_add]
      rw [e1, Nat.pow_add 2 (k + 1) d, ← Nat.div_div_eq_div_mul, ← Nat.div_div_eq_div_mul, e2, Nat.mul_div_cancel_left _ (Nat.two_pow_pos _)]
end Go.Proofs.YtilpbjcbffbjeaaGreatDoor.Sha
namespace Go.Proofs.YtilpbjcbffbjeaaGreatDoor
set_option linter.unusedVariables false
open Go.RowKit
theorem info58 : (Tryz.prog.info? 199).map (fun i => (i.zero, i.size, i.bytes)) = some (some (.int .u64 0), 1, 8) := by kernel_rfl
theorem madeCells_row (n : Nat) : madeCells #[Value.int .u64 0] n = (rowOf .u64 n (fun _ => 0)).toArray := by
  refine Array.ext_getElem? fun j => ?_
  by_cases hj : j < n
  · have h2 : (rowOf .u64 n (fun _ => 0)).toArray[j]? = some (.int .u64 ((0 : Nat) : Int)) := by rw [List.getElem?_toArray, getElem?_rowOf _ _ _ _ hj]
    rw [h2]; simp [madeCells, hj, Nat.mod_one]
  · have h2 : (rowOf .u64 n (fun _ => 0)).toArray[j]? = none := by rw [List.getElem?_toArray, List.getElem?_eq_none (by rw [length_rowOf]; omega)]
    rw [h2, Array.getElem?_eq_none (by rw [size_madeCells]; omega)]
theorem ret_val {k : IntKind} {a b : Int} (h : a = b) : Value.int k a = Value.int k b := by rw [h]
theorem ret_bool {a b : Bool} (h : a = b) : Ending.returned (.bool a) = .returned (.bool b) := by rw [h]
/-- Cells of a block that hold digits. -/
def Cells64 (w : World) (B n : Nat) (f : Nat → Nat) : Prop := ∀ j, j < n → w.cell? ⟨B, j, none⟩ = some (.int .u64 (f j : Nat))
theorem Cells64.below {w w' : World} {B n : Nat} {f : Nat → Nat} (h : Cells64 w B n f) (hb : Below w.heap.size w w') : Cells64 w' B n f := fun j hj => (hb.cell (block_lt_of_cell (h j hj))).trans (h j hj)
set_option maxRecDepth 100000 in
set_option maxHeartbeats 400000 in
theorem timesW (Ba Bb la lb ca cb : Nat) (fa fb : Nat → Nat) (w : World) (ha : Cells64 w Ba la fa) (hb : Cells64 w Bb lb fb) (da : ∀ j, j < la → fa j < 65536) (db : ∀ j, j < lb → fb j < 65536) (hla : la ≤ 1000) (hlb : lb ≤ 1000) :
    Calls Tryz.prog 177 #[.slice (some ⟨Ba, 0, none⟩) la ca, .slice (some ⟨Bb, 0, none⟩) lb cb] w fun e w' => ∃ f, e = .returned (.slice (some ⟨w.heap.size, 0, none⟩) (la + lb) (la + lb)) ∧ Row w' w.heap.size 199 .u64 (la + lb) f ∧
      (∀ j, j < la + lb → f j < 65536) ∧ Sha.V f (la + lb) = Sha.V fa la * Sha.V fb lb ∧ Below w.heap.size w w' := by
  obtain ⟨i0, hi, hz0, hz1, hz2⟩ := info_parts info58
  have hmk : ∀ u : World, (Instr.makeSlice 228 (.int .i64 ((la : Int) + (lb : Int))) (.int .i64 ((la : Int) + (lb : Int)))).run Tryz.prog u =
      .ok (.slice (some ⟨u.heap.size, 0, none⟩) (la + lb) (la + lb)) (u.alloc (.cells (rowOf .u64 (la + lb) (fun _ => 0)).toArray 199)) := fun u => by
    have h := run_make (P := Tryz.prog) u 228 199 i0 (.int .u64 0) Tryz.underlying228 hi hz0 .i64 .i64 ((la : Int) + (lb : Int)) ((la : Int) + (lb : Int)) (by omega) (Int.le_refl _) (by rw [hz2]; omega) (by omega)
    have e : ((la : Int) + (lb : Int)).toNat = la + lb := by omega
    rw [e] at h
    rw [← madeCells_row]
    simpa [hz1, Value.cells] using h
  have HA := Lib.hid ha
  have HB := Lib.hid hb
  have DA := Lib.hid da
  have DB := Lib.hid db
  clear ha hb da db hi hz0 hz1 hz2
  go_enter Tryz.func177, Tryz.ntmps177
  go_wp2_with fail
  have hr := Row.new w 199 .u64 (la + lb) (fun _ => 0) _ rfl
  have hbw : Below w.heap.size w (w.alloc (.cells (rowOf .u64 (la + lb) (fun _ => 0)).toArray 199)) := (Below.refl _ _).alloc (Nat.le_refl _) _
  obtain ⟨W1, hW1⟩ : ∃ v, v = w.alloc (.cells (rowOf .u64 (la + lb) (fun _ => 0)).toArray 199) := ⟨_, rfl⟩
  rw [← hW1] at hr hbw ⊢
  obtain ⟨B0, hB0⟩ : ∃ b, b = w.heap.size := ⟨_, rfl⟩
  rw [← hB0] at hr hbw ⊢
  have HR := Lib.hid hr
  have HBW := Lib.hid hbw
  have HB0 := Lib.hid hB0
  clear hr hbw hW1 hB0
  go_loopw [6] (fun vi wr => ∃ (i : Nat) (f : Nat → Nat), i ≤ la ∧ vi = .int .i64 (i : Nat) ∧ Row wr B0 199 .u64 (la + lb) f ∧ Sha.MO fa fb la lb i f ∧ Below B0 w wr) (fun vi _ => (la - intOf vi).toNat)
  case atStart => exact ⟨0, fun _ => 0, by omega, rfl, HR.out, ⟨fun _ _ => by simp, fun _ _ _ => rfl, by rw [Sha.V_zero]; simp [Sha.V]⟩, HBW.out⟩
  case round =>
    obtain ⟨i, f, hi, rfl, hr, hm, hb⟩ := hrel
    have HRR := Lib.hid hr
    have HM := Lib.hid hm
    have HBR := Lib.hid hb
    clear hr hm hb
    by_cases hlt : i < la
    · go_wp2_with fail
      obtain ⟨wo, rfl⟩ : ∃ wo : World, wo = wr := ⟨_, rfl⟩
      go_loopw [7, 8] (fun vc vk wq => ∃ (k c : Nat) (g : Nat → Nat), k ≤ lb ∧ vk = .int .i64 (k : Nat) ∧ vc = .int .u64 (c : Nat) ∧ Row wq B0 199 .u64 (la + lb) g ∧ Sha.MI fa fb la lb i k c g ∧ Below B0 w wq) (fun _ vk _ => (lb - intOf vk).toNat)
      case atStart => exact ⟨0, 0, f, by omega, rfl, rfl, HRR.out, HM.out.start, HBR.out⟩
      case round =>
        obtain ⟨k, c, g, hk, rfl, rfl, hr, hm, hb⟩ := hrel
        have HR2 := Lib.hid hr
        have HM2 := Lib.hid hm
        have HB2 := Lib.hid hb
        clear hr hm hb
        by_cases hkt : k < lb
        · have q1 : ∀ t : Grow wr, t.val.cell? ⟨B0, i + k, none⟩ = some (.int .u64 (g (i + k) : Nat)) := fun t => t.cell (HR2.out.cell (by omega))
          have q2 : ∀ t : Grow wr, t.val.cell? ⟨Ba, i, none⟩ = some (.int .u64 (fa i : Nat)) := fun t => t.cell ((HB2.out.cell (by rw [HB0.out]; exact block_lt_of_cell (HA.out i hlt))).trans (HA.out i hlt))
          have q3 : ∀ t : Grow wr, t.val.cell? ⟨Bb, k, none⟩ = some (.int .u64 (fb k : Nat)) := fun t => t.cell ((HB2.out.cell (by rw [HB0.out]; exact block_lt_of_cell (HB.out k hkt))).trans (HB.out k hkt))
          have hst := HM2.out.step hlt hkt (DA.out i hlt) (DB.out k hkt)
          have hc0 := HM2.out.cl
          have hc1 := HM2.out.d (i + k) (by omega)
          have hc2 := (Sha.carry_lt hc0 hc1 (DA.out i hlt) (DB.out k hkt)).1
          obtain ⟨x, hx⟩ : ∃ x, x = g (i + k) := ⟨_, rfl⟩
          obtain ⟨y, hy⟩ : ∃ y, y = fa i := ⟨_, rfl⟩
          obtain ⟨z, hz⟩ : ∃ z, z = fb k := ⟨_, rfl⟩
          rw [← hx] at q1 hst hc1 hc2
          rw [← hy] at q2 hst hc2
          rw [← hz] at q3 hst hc2
          obtain ⟨m, hmm⟩ : ∃ m, m = y * z := ⟨_, rfl⟩
          rw [← hmm] at hst hc2
          have hw1 : IntKind.u64.wrap ((y : Int) * (z : Int)) = (m : Int) := by rw [hmm, ← Int.natCast_mul, wrap_u64_nat]; rw [← hmm]; omega
          have hw2 : IntKind.u64.wrap ((x : Int) + (m : Int)) = ((x + m : Nat) : Int) := by rw [← Int.natCast_add, wrap_u64_nat]; omega
          have hw3 : IntKind.u64.wrap ((c : Int) + ((x + m : Nat) : Int)) = ((c + (x + m) : Nat) : Int) := by rw [← Int.natCast_add, wrap_u64_nat]; omega
          have hik : IntKind.i64.wrap ((i : Int) + (k : Int)) = (i : Int) + (k : Int) := IntWalk.i64_in _ (by omega)
          have hik0 : (0 : Int) ≤ (i : Int) + (k : Int) := by omega
          have hik1 : ((i : Int) + (k : Int)).toNat = i + k := by omega
          have HST := Lib.hid hst
          clear hst hx hy hz hmm
          go_wp2_with fail
          refine wp_region_fam (by kernel_rfl) (by kernel_rfl) Grow.val (Grow.start wr) ?_
          repeat go_big_quiet_step (fail)
          refine wpQuiet_nil ?_
          intro t
          clear q1 q2 q3 hik hik0 hik1
          obtain ⟨d, hd⟩ : ∃ d, d = (c + x + m) % 65536 := ⟨_, rfl⟩
          have hand : bits .and .u64 ((c : Int) + ((x : Int) + (m : Int))) 65535 = (d : Int) := by
            have := and_u64 (c + (x + m)) 65535 (by omega) (by decide)
            rw [show ((c : Int) + ((x : Int) + (m : Int))) = ((c + (x + m) : Nat) : Int) by omega, show (65535 : Int) = ((65535 : Nat) : Int) from rfl, this, hd]
            rw [show 65535 = 2 ^ 16 - 1 from rfl, Nat.and_two_pow_sub_one_eq_mod, Nat.add_assoc]
          have HDD := Lib.hid hd
          clear hd
          have hrow := t.row HR2.out
          have q4 := hrow.cell (j := i + k) (by omega)
          have q5 := hrow.free (i + k)
          have HROW := Lib.hid hrow
          clear hrow
          go_wp2_with fail
          go_roundw
          case rel =>
            refine ⟨k + 1, (c + x + m) / 65536, Sha.upd g (i + k) d, by omega, by go_num, ret_val (by omega), (HROW.out.set (by omega) d).congr (fun j _ => rfl), ?_, ?_⟩
            · rw [HDD.out]; exact HST.out
            · exact (HB2.out.trans (t.below.mono (by have := HR2.out.lt; omega))).setCell (p := ⟨B0, i + k, none⟩) (Nat.le_refl _) _
          case measure => simp [intOf]; omega
        · obtain rfl : k = lb := by omega
          have q4 := HR2.out.cell (j := i + k) (by omega)
          have q5 := HR2.out.free (i + k)
          go_wp2_with fail
          go_roundw
          case rel =>
            refine ⟨i + 1, Sha.upd g (i + k) c, by omega, by go_num, (HR2.out.set (by omega) c).congr (fun j _ => rfl), HM2.out.finish hlt, ?_⟩
            exact HB2.out.setCell (p := ⟨B0, i + k, none⟩) (Nat.le_refl _) _
          case measure => simp [intOf]; omega
    · obtain rfl : i = la := by omega
      go_wp2_with fail
      go_ret
      have h := HB0.out
      subst h
      exact ⟨f, rfl, HRR.out, HM.out.d, HM.out.v, HBR.out⟩
/-- The digits of p times 65536^o. -/
def oneAt (p o : Nat) : Nat → Nat := fun j => if j = o then p else 0
theorem oneAt_lt {p o : Nat} (hp : p < 65536) (j : Nat) : oneAt p o j < 65536 := by unfold oneAt; split <;> omega
theorem oneAt_V (p o N : Nat) (h : o < N) : Sha.V (oneAt p o) N = p * 65536 ^ o := by
  have := Sha.V_one p o N
  rw [if_pos h] at this
  exact this
set_option maxRecDepth 100000 in
set_option maxHeartbeats 400000 in
theorem aboveW (Ba N ca p o : Nat) (f : Nat → Nat) (w : World) (ha : Cells64 w Ba N f) (hd : ∀ j, j < N → f j < 65536) (hp : p < 65536) (ho : o < N) (hN : N ≤ 3000) :
    Calls Tryz.prog 178 #[.slice (some ⟨Ba, 0, none⟩) N ca, .int .u64 (p : Nat), .int .i64 (o : Nat)] w fun e w' => e = .returned (.bool (decide (p * 65536 ^ o < Sha.V f N))) ∧ w = w' := by
  have HA := Lib.hid ha
  have HD := Lib.hid hd
  have HV := Lib.hid (oneAt_V p o N ho)
  clear ha hd
  go_enter Tryz.func178, Tryz.ntmps178
  go_wp2_with fail
  go_loop [7] (fun vi => ∃ z : Int, -1 ≤ z ∧ z < N ∧ vi = .int .i64 z ∧ Sha.V f N + Sha.V (oneAt p o) (z + 1).toNat = Sha.V (oneAt p o) N + Sha.V f (z + 1).toNat) (fun vi => (intOf vi + 1).toNat)
  case atStart => exact ⟨(N : Int) - 1, by omega, by omega, rfl, by rw [show ((N : Int) - 1 + 1).toNat = N by omega]; omega⟩
  case round =>
    obtain ⟨z, hz1, hz2, rfl, he⟩ := hrel
    by_cases hz : 0 ≤ z
    · obtain ⟨m, rfl⟩ := Int.eq_ofNat_of_zero_le hz
      rw [show ((m : Int) + 1).toNat = m + 1 by omega] at he
      have hc := Sha.V_cmp he (fun j hj => HD.out j (by omega)) (fun j _ => oneAt_lt hp j)
      have q1 := HA.out m (by omega)
      obtain ⟨x, hx⟩ : ∃ x, x = f m := ⟨_, rfl⟩
      rw [← hx] at q1 hc
      have HX := Lib.hid hx
      have HE := Lib.hid he
      clear hx he
      by_cases hmo : m = o
      · have hb : ((m : Int) == (o : Int)) = true := by rw [beq_iff_eq]; omega
        have ht : oneAt p o m = p := by unfold oneAt; rw [if_pos hmo]
        rw [ht, HV.out] at hc
        have HC := Lib.hid hc
        have HT := Lib.hid ht
        clear hc ht hmo
        by_cases hxp : x = p
        · have hb2 : ((x : Int) != (p : Int)) = false := by rw [bne_eq_false_iff_eq]; omega
          have HXP := Lib.hid hxp
          clear hxp
          go_wp2_with fail
          go_round
          case rel =>
            refine ⟨(m : Int) - 1, by omega, by omega, rfl, ?_⟩
            have h1 := HE.out
            rw [Sha.V_succ, Sha.V_succ, HT.out, ← HX.out, HXP.out] at h1
            simp only [show ((m : Int) - 1 + 1).toNat = m by omega]
            omega
          case measure => simp [intOf]
        · have hb2 : ((x : Int) != (p : Int)) = true := by rw [bne_iff_ne]; omega
          go_wp2_with fail
          go_ret
          refine ⟨ret_bool (decide_eq_decide.2 ?_), rfl⟩
          constructor
          · intro h; exact HC.out.1 (by omega)
          · intro h
            by_cases h2 : p < x
            · omega
            · exact absurd (HC.out.2 (by omega)) (by omega)
      · have hb : ((m : Int) == (o : Int)) = false := by rw [beq_eq_false_iff_ne]; omega
        have ht : oneAt p o m = 0 := by unfold oneAt; rw [if_neg hmo]
        rw [ht, HV.out] at hc
        have HC := Lib.hid hc
        have HT := Lib.hid ht
        clear hc ht hmo
        by_cases hxp : x = 0
        · have hb2 : ((x : Int) != 0) = false := by rw [bne_eq_false_iff_eq]; omega
          have HXP := Lib.hid hxp
          clear hxp
          go_wp2_with fail
          go_round
          case rel =>
            refine ⟨(m : Int) - 1, by omega, by omega, rfl, ?_⟩
            have h1 := HE.out
            rw [Sha.V_succ, Sha.V_succ, HT.out, ← HX.out, HXP.out] at h1
            simp only [show ((m : Int) - 1 + 1).toNat = m by omega]
            omega
          case measure => simp [intOf]
        · have hb2 : ((x : Int) != 0) = true := by rw [bne_iff_ne]; omega
          go_wp2_with fail
          go_ret
          have hx0 : 0 < x := by omega
          exact ⟨ret_bool (decide_eq_decide.2 ⟨fun _ => HC.out.1 hx0, fun _ => hx0⟩), rfl⟩
    · obtain rfl : z = -1 := by omega
      have HE : Hid (Sha.V f N = p * 65536 ^ o) := by rw [HV.out] at he; unfold Hid; simpa [Sha.V] using he
      clear he
      go_wp2_with fail
      go_ret
      exact ⟨ret_bool (decide_eq_false (by rw [HE.out]; omega)).symm, rfl⟩
end Go.Proofs.YtilpbjcbffbjeaaGreatDoor
namespace Go.Proofs.YtilpbjcbffbjeaaGreatDoor
set_option linter.unusedVariables false
open Go.RowKit
namespace Sha
theorem rootStep_mod (p n bits X k : Nat) (h : X % 2 ^ (k + 1) = 0) : rootStep p n bits X k % 2 ^ k = 0 := by
  obtain ⟨q, rfl⟩ := Nat.dvd_of_mod_eq_zero h
  unfold rootStep
  have h1 : 2 ^ (k + 1) * q = 2 ^ k * (2 * q) := by rw [Nat.pow_succ, Nat.mul_assoc]
  split
  · rw [h1, Nat.mul_mod_right]
  · rw [h1, Nat.add_comm, Nat.add_mul_mod_self_left, Nat.mod_self]
theorem bit_lt (X k N : Nat) (h : X % 2 ^ (k + 1) = 0) (hX : X < 2 ^ N) (hk : k < N) : X + 2 ^ k < 2 ^ N := by
  obtain ⟨q, rfl⟩ := Nat.dvd_of_mod_eq_zero h
  have e : 2 ^ N = 2 ^ (k + 1) * 2 ^ (N - (k + 1)) := by rw [← Nat.pow_add]; congr 1; omega
  rw [e] at hX ⊢
  have hq : q < 2 ^ (N - (k + 1)) := Nat.lt_of_mul_lt_mul_left hX
  have h2 : 2 ^ (k + 1) * (q + 1) ≤ 2 ^ (k + 1) * 2 ^ (N - (k + 1)) := Nat.mul_le_mul_left _ hq
  rw [Nat.mul_add, Nat.mul_one] at h2
  have h3 : 2 ^ k < 2 ^ (k + 1) := Nat.pow_lt_pow_right (by decide) (by omega)
  omega
theorem rootStep_lt (p n bits X k N : Nat) (h : X % 2 ^ (k + 1) = 0) (hX : X < 2 ^ N) (hk : k < N) : rootStep p n bits X k < 2 ^ N := by
  unfold rootStep
  split
  · exact hX
  · exact bit_lt X k N h hX hk
/-- The bits below, digit by digit from above. -/
theorem low_step (X b i : Nat) (hi : i < b) : (X % 65536 ^ b) / 65536 ^ i = (X % 65536 ^ b) / 65536 ^ (i + 1) * 65536 + dig X i := by
  have h1 : dig X i = (X % 65536 ^ b) / 65536 ^ i % 65536 := by
    unfold dig
    obtain ⟨c, rfl⟩ : ∃ c, b = i + (c + 1) := ⟨b - i - 1, by omega⟩
    rw [Nat.pow_add, Nat.mod_mul_right_div_self, Nat.pow_succ, Nat.mul_comm (65536 ^ c), Nat.mod_mul_right_mod]
  rw [h1, Nat.pow_succ, ← Nat.div_div_eq_div_mul]
  omega
theorem low_lt (X b i : Nat) (hb : b ≤ 4) : (X % 65536 ^ b) / 65536 ^ (i + 1) < 65536 ^ 3 := by
  have h1 : X % 65536 ^ b < 65536 ^ b := Nat.mod_lt _ (Nat.pow_pos (by decide))
  have h2 : 65536 ^ b ≤ 65536 ^ 4 := Nat.pow_le_pow_right (by decide) hb
  have h3 : (X % 65536 ^ b) / 65536 ^ (i + 1) ≤ (X % 65536 ^ b) / 65536 := by
    refine Nat.div_le_div_left ?_ (by decide)
    calc 65536 = 65536 ^ 1 := rfl
      _ ≤ 65536 ^ (i + 1) := Nat.pow_le_pow_right (by decide) (by omega)
  omega
end Sha
def bits_or (a b : Int) : Int := bits .or .u64 a b
set_option maxRecDepth 100000 in
set_option maxHeartbeats 800000 in
theorem rootW (p n bits : Nat) (hp : p < 65536) (hn : n = 2 ∨ n = 3) (hbits : bits = 32 ∨ bits = 64) (w : World) :
    Calls Tryz.prog 163 #[.int .u64 (p : Nat), .int .i64 (n : Nat), .int .i64 (bits : Nat)] w fun e w' => e = .returned (.int .u64 (Sha.root p n bits : Nat)) ∧ Below w.heap.size w w' := by
  have hmk : ∀ w, (Instr.makeSlice 228 (.int .i64 5) (.int .i64 5)).run Tryz.prog w = .ok (.slice (some ⟨w.heap.size, 0, none⟩) 5 5) (w.alloc (.cells (rowOf .u64 5 (fun _ => 0)).toArray 199)) := fun _ => by kernel_rfl
  have hb64 : bits ≤ 64 := by omega
  have hb32 : 32 ≤ bits := by omega
  have hn3 : n ≤ 3 := by omega
  have HBITS := Lib.hid hbits
  have HN := Lib.hid hn
  clear hbits hn
  go_enter Tryz.func163, Tryz.ntmps163
  go_wp2_with fail
  have hr := Row.new w 199 .u64 5 (fun _ => 0) _ rfl
  have hbw : Below w.heap.size w (w.alloc (.cells (rowOf .u64 5 (fun _ => 0)).toArray 199)) := (Below.refl _ _).alloc (Nat.le_refl _) _
  obtain ⟨W1, hW1⟩ : ∃ v, v = w.alloc (.cells (rowOf .u64 5 (fun _ => 0)).toArray 199) := ⟨_, rfl⟩
  rw [← hW1] at hr hbw ⊢
  obtain ⟨B0, hB0⟩ : ∃ b, b = w.heap.size := ⟨_, rfl⟩
  rw [← hB0] at hr hbw ⊢
  have HR := Lib.hid hr
  have HBW := Lib.hid hbw
  have HB0 := Lib.hid hB0
  clear hr hbw hW1 hB0
  go_loopw [8] (fun vi wr => ∃ (z : Int) (X : Nat), -1 ≤ z ∧ z ≤ (bits : Int) + 8 ∧ vi = .int .i64 z ∧ Row wr B0 199 .u64 5 (Sha.dig X) ∧ X % 2 ^ (z + 1).toNat = 0 ∧ X < 2 ^ (bits + 9) ∧ Sha.rootFrom p n bits (z + 1).toNat X = Sha.rootFrom p n bits (bits + 9) 0 ∧ Below B0 w wr) (fun vi _ => (intOf vi + 1).toNat)
  case atStart => exact ⟨(bits : Int) + 8, 0, by omega, by omega, rfl, HR.out.congr (fun j _ => by simp [Sha.dig]), by simp, Nat.two_pow_pos _, by rw [show ((bits : Int) + 8 + 1).toNat = bits + 9 by omega], HBW.out⟩
  case round =>
    obtain ⟨z, X, hz1, hz2, rfl, hr, hm, hX, hrf, hb⟩ := hrel
    have HRR := Lib.hid hr
    have HBR := Lib.hid hb
    clear hr hb
    by_cases hz : 0 ≤ z
    · obtain ⟨k, rfl⟩ := Int.eq_ofNat_of_zero_le hz
      rw [show ((k : Int) + 1).toNat = k + 1 by omega] at hm hrf
      have HM := Lib.hid hm
      have HX := Lib.hid hX
      have HRF := Lib.hid hrf
      clear hm hX hrf
      have q1 : ∀ t : Grow wr, t.val.cell? ⟨B0, k / 16, none⟩ = some (.int .u64 (Sha.dig X (k / 16) : Nat)) := fun t => t.cell (HRR.out.cell (by omega))
      have hdg := Sha.dig_bit X k HM.out
      have hxs : Sha.dig X (k / 16) + 2 ^ (k % 16) < 65536 := by
        have h1 := hdg (k / 16)
        rw [if_pos rfl] at h1
        rw [← h1]; exact Sha.dig_lt _ _
      obtain ⟨x, hx⟩ : ∃ x, x = Sha.dig X (k / 16) := ⟨_, rfl⟩
      obtain ⟨s, hs⟩ : ∃ s, s = 2 ^ (k % 16) := ⟨_, rfl⟩
      rw [← hx, ← hs] at hxs
      rw [← hx] at q1
      have hw1 : IntKind.u64.wrap (2 ^ (k % 16)) = (s : Int) := by
        have : ((2 : Int) ^ (k % 16)) = ((2 ^ (k % 16) : Nat) : Int) := by simp
        rw [this, ← hs, wrap_u64_nat]; omega
      obtain ⟨y, hy⟩ : ∃ y, y = x + s := ⟨_, rfl⟩
      have hy16 : y < 65536 := by omega
      have hxy : x ≤ y := by omega
      have hw2 : IntKind.u64.wrap ((x : Int) + (s : Int)) = (y : Int) := by rw [← Int.natCast_add, wrap_u64_nat, hy]; omega
      have hw3 : IntKind.u64.wrap ((y : Int) - (s : Int)) = (x : Int) := by rw [show (y : Int) - (s : Int) = (x : Int) by omega, wrap_u64_nat]; omega
      obtain ⟨X2, hX2⟩ : ∃ X2, X2 = X + 2 ^ k := ⟨_, rfl⟩
      have hx2 : X2 < 2 ^ (bits + 9) := by rw [hX2]; exact Sha.bit_lt X k _ HM.out HX.out (by omega)
      have HUP : Hid (∀ j, j < 5 → (if j = k / 16 then y else Sha.dig X j) = Sha.dig X2 j) := fun j _ => by
        rw [hX2, hdg j]
        by_cases h : j = k / 16
        · rw [if_pos h, if_pos h, hy, hx, hs, h]
        · rw [if_neg h, if_neg h]
      have HDN : Hid (∀ j, j < 5 → (if j = k / 16 then x else Sha.dig X2 j) = Sha.dig X j) := fun j _ => by
        rw [hX2, hdg j]
        by_cases h : j = k / 16
        · rw [if_pos h, hx, h]
        · rw [if_neg h, if_neg h]
      have HXS : Hid (Sha.dig X2 (k / 16) = y) := by rw [hX2, hdg, if_pos rfl, ← hx, ← hs, hy]; exact rfl
      have HX2 := Lib.hid hX2
      have HX2L := Lib.hid hx2
      clear hdg hx hs hX2 hx2 hy
      go_wp2_with fail
      refine wp_region_fam_tail 10 (by kernel_rfl) (by kernel_rfl) Grow.val (Grow.start wr) ?_
      simp only [List.take_succ_cons, List.take_zero, List.drop_succ_cons, List.drop_zero]
      repeat go_big_quiet_step (fail)
      refine wpQuiet_nil ?_
      intro t
      have hrow := t.row HRR.out
      have q4 := hrow.cell (j := k / 16) (by omega)
      have q5 := hrow.free (k / 16)
      have HROW := Lib.hid hrow
      clear hrow q1
      go_wp2_with fail
      have hrw := ((HROW.out.set (i := k / 16) (by omega) y).congr HUP.out).alloc (.cells #[.int .u64 1] 199)
      have hc1 : Cells64 ((t.val.setCell ⟨B0, k / 16, none⟩ (.int .u64 (y : Nat))).alloc (.cells #[.int .u64 1] 199)) t.val.heap.size 1 (fun _ => 1) := fun j hj => by
        have h1 := Row.new (t.val.setCell ⟨B0, k / 16, none⟩ (.int .u64 (y : Nat))) 199 .u64 1 (fun _ => 1) #[.int .u64 1] rfl
        have e1 : (t.val.setCell ⟨B0, k / 16, none⟩ (.int .u64 (y : Nat))).heap.size = t.val.heap.size := by simp
        rw [e1] at h1
        exact h1.cell hj
      have hb2 : Below B0 w ((t.val.setCell ⟨B0, k / 16, none⟩ (.int .u64 (y : Nat))).alloc (.cells #[.int .u64 1] 199)) :=
        ((HBR.out.trans (t.below.mono (by have := HRR.out.lt; omega))).setCell (p := ⟨B0, k / 16, none⟩) (Nat.le_refl _) _).alloc (by have := HROW.out.lt; simp; omega) _
      have hlt : B0 < t.val.heap.size := HROW.out.lt
      obtain ⟨W2, hW2⟩ : ∃ v, v = (t.val.setCell ⟨B0, k / 16, none⟩ (.int .u64 (y : Nat))).alloc (.cells #[.int .u64 1] 199) := ⟨_, rfl⟩
      rw [← hW2] at hrw hc1 hb2 ⊢
      obtain ⟨Bg0, hBg0⟩ : ∃ b, b = t.val.heap.size := ⟨_, rfl⟩
      rw [← hBg0] at hc1 hlt ⊢
      have HRW := Lib.hid hrw
      have HC1 := Lib.hid hc1
      have HB2 := Lib.hid hb2
      clear hrw hc1 hb2 hW2 hBg0 q4 q5 HROW t
      rw [hw1]
      go_loopw [9, 10] (fun va vi wq => ∃ (i Ng cg Bg : Nat) (g : Nat → Nat), i ≤ n ∧ vi = .int .i64 (i : Nat) ∧ Ng = 1 + 5 * i ∧ va = .slice (some ⟨Bg, 0, none⟩) Ng cg ∧ Cells64 wq Bg Ng g ∧ (∀ j, j < Ng → g j < 65536) ∧ Sha.V g Ng = X2 ^ i ∧ Row wq B0 199 .u64 5 (Sha.dig X2) ∧ Below B0 w wq) (fun _ vi _ => (n - intOf vi).toNat)
      case atStart => exact ⟨0, 1, 1, Bg0, fun _ => 1, by omega, rfl, rfl, rfl, HC1.out, fun _ _ => show 1 < 65536 by decide, by simp [Sha.V], HRW.out, HB2.out⟩
      case round =>
        obtain ⟨i, Ng, cg, Bg, g, hi, rfl, hNg, rfl, hc, hd, hv, hr, hb⟩ := hrel
        have hNg2 : Ng ≤ 1 + 5 * i := by omega
        have hNg3 : 1 + 5 * i ≤ Ng := by omega
        have HC := Lib.hid hc
        have HD := Lib.hid hd
        have HV := Lib.hid hv
        have HR2 := Lib.hid hr
        have HB3 := Lib.hid hb
        clear hNg hc hd hv hr hb
        by_cases hin : i < n
        · go_wp2_with fail
          refine (timesW Bg B0 Ng 5 cg 5 g (Sha.dig X2) _ HC.out (fun j hj => HR2.out.cell hj) HD.out (fun j _ => Sha.dig_lt _ _) (by omega) (by omega)).mono ?_
          rintro e w5 ⟨g', rfl, hr5, hd5, hv5, hb5⟩
          rw [HV.out, Sha.V_dig_all X2 5 (Nat.lt_of_lt_of_le HX2L.out (by rw [Sha.pow16]; exact Nat.pow_le_pow_right (by decide) (by omega))), ← Nat.pow_succ] at hv5
          have hr6 := HR2.out.below hb5 HR2.out.lt
          have hb6 := HB3.out.trans (hb5.mono (by have := HR2.out.lt; omega))
          have HR5 := Lib.hid hr5
          have HD5 := Lib.hid hd5
          have HV5 := Lib.hid hv5
          have HR6 := Lib.hid hr6
          have HB6 := Lib.hid hb6
          clear hr5 hd5 hv5 hr6 hb6 hb5
          go_wp2_with fail
          go_roundw
          case rel => exact ⟨i + 1, _, _, _, g', by omega, by go_num, by omega, rfl, fun j hj => HR5.out.cell hj, HD5.out, HV5.out, HR6.out, HB6.out⟩
          case measure => simp [intOf]; omega
        · obtain rfl : i = n := by omega
          obtain ⟨nb, hnb⟩ : ∃ nb, nb = i * bits := ⟨_, rfl⟩
          have hnb2 : nb ≤ 64 * i := by rw [hnb, Nat.mul_comm 64]; exact Nat.mul_le_mul_left _ hb64
          have hm1 : (i : Int) * (bits : Int) = (nb : Int) := by rw [hnb]; simp
          have hq : p * 65536 ^ (nb / 16) = p * 2 ^ (bits * i) := by
            rw [Sha.pow16, Nat.mul_comm bits i, ← hnb]
            congr 2
            rcases HBITS.out with h | h <;> subst h <;> omega
          have HQ := Lib.hid hq
          have HNB := Lib.hid hnb
          clear hq hnb
          go_wp2_with fail
          rw [show ((nb : Int) / 16) = ((nb / 16 : Nat) : Int) by omega]
          refine (aboveW Bg Ng cg p (nb / 16) g _ HC.out HD.out hp (by omega) (by omega)).mono ?_
          rintro e w5 ⟨rfl, rfl⟩
          rw [HV.out, HQ.out]
          have hstep := Sha.rootStep_mod p i bits X k HM.out
          have hstl := Sha.rootStep_lt p i bits X k _ HM.out HX.out (show k < bits + 9 by omega)
          have hrf := HRF.out
          by_cases hab : p * 2 ^ (bits * i) < X2 ^ i
          · have hres : Sha.rootStep p i bits X k = X := by unfold Sha.rootStep; rw [← HX2.out, if_pos hab]
            have hrf2 : Sha.rootFrom p i bits k X = Sha.rootFrom p i bits (bits + 9) 0 := by rw [← hrf]; show _ = Sha.rootFrom p i bits k (Sha.rootStep p i bits X k); rw [hres]
            rw [hres] at hstep hstl
            have hdt := decide_eq_true hab
            obtain ⟨bb, hbb⟩ : ∃ bb, bb = decide (p * 2 ^ (bits * i) < X2 ^ i) := ⟨_, rfl⟩
            rw [← hbb] at hdt ⊢
            subst hdt
            have HS := Lib.hid hstep
            have HL := Lib.hid hstl
            have HF2 := Lib.hid hrf2
            clear hab hbb hres hstep hstl hrf hrf2
            have q4 : ∀ t : Grow wr, t.val.cell? ⟨B0, k / 16, none⟩ = some (.int .u64 (y : Nat)) := fun t => by
              have := t.cell (HR2.out.cell (j := k / 16) (by omega))
              rw [HXS.out] at this; exact this
            go_wp2_with fail
            refine wp_region_fam_tail 10 (by kernel_rfl) (by kernel_rfl) Grow.val (Grow.start wr) ?_
            simp only [List.take_succ_cons, List.take_zero, List.drop_succ_cons, List.drop_zero]
            repeat go_big_quiet_step (fail)
            refine wpQuiet_nil ?_
            intro t
            have hrow := t.row HR2.out
            have q5 := hrow.free (k / 16)
            have q6 := q4 t
            have HROW := Lib.hid hrow
            clear hrow q4
            go_wp2_with fail
            have hset := (HROW.out.set (i := k / 16) (by omega) x).congr HDN.out
            exact ⟨⟨(k : Int) - 1, X, by omega, by omega, rfl, hset, by rw [show ((k : Int) - 1 + 1).toNat = k by omega]; exact HS.out, HL.out, by rw [show ((k : Int) - 1 + 1).toNat = k by omega]; exact HF2.out,
              (HB3.out.trans (t.below.mono (by have := HR2.out.lt; omega))).setCell (p := ⟨B0, k / 16, none⟩) (Nat.le_refl _) _⟩, by simp [intOf]⟩
          · have hres : Sha.rootStep p i bits X k = X2 := by unfold Sha.rootStep; rw [← HX2.out, if_neg hab]
            have hrf2 : Sha.rootFrom p i bits k X2 = Sha.rootFrom p i bits (bits + 9) 0 := by rw [← hrf, ← hres]; exact rfl
            rw [hres] at hstep hstl
            have hdt := decide_eq_false hab
            obtain ⟨bb, hbb⟩ : ∃ bb, bb = decide (p * 2 ^ (bits * i) < X2 ^ i) := ⟨_, rfl⟩
            rw [← hbb] at hdt ⊢
            subst hdt
            have HS := Lib.hid hstep
            have HL := Lib.hid hstl
            have HF2 := Lib.hid hrf2
            clear hab hbb hres hstep hstl hrf hrf2
            go_wp2_with fail
            exact ⟨⟨(k : Int) - 1, X2, by omega, by omega, rfl, HR2.out, by rw [show ((k : Int) - 1 + 1).toNat = k by omega]; exact HS.out, HL.out, by rw [show ((k : Int) - 1 + 1).toNat = k by omega]; exact HF2.out, HB3.out⟩, by simp [intOf]⟩
    · obtain rfl : z = -1 := by omega
      have hfin : Sha.root p n bits = X % 65536 ^ (bits / 16) := by
        have h1 : Sha.rootFrom p n bits 0 X = Sha.rootFrom p n bits (bits + 9) 0 := hrf
        unfold Sha.root
        rw [← h1, Sha.pow16, show 16 * (bits / 16) = bits by rcases HBITS.out with h | h <;> subst h <;> decide]
        rfl
      have HFIN := Lib.hid hfin
      clear hfin hm hX hrf hz
      go_wp2_with fail
      obtain ⟨wo, rfl⟩ : ∃ wo : World, wo = wr := ⟨_, rfl⟩
      go_loop [11, 12] (fun vy vi => ∃ z : Int, -1 ≤ z ∧ z ≤ (bits : Int) / 16 - 1 ∧ vi = .int .i64 z ∧ vy = .int .u64 ((X % 65536 ^ (bits / 16)) / 65536 ^ (z + 1).toNat : Nat)) (fun _ vi => (intOf vi + 1).toNat)
      case atStart =>
        refine ⟨(bits : Int) / 16 - 1, by omega, by omega, rfl, ?_⟩
        rw [show ((bits : Int) / 16 - 1 + 1).toNat = bits / 16 by omega, Nat.div_eq_of_lt (Nat.mod_lt _ (Nat.pow_pos (by decide)))]
        rfl
      case round =>
        obtain ⟨z, hz1, hz2, rfl, rfl⟩ := hrel
        by_cases hz : 0 ≤ z
        · obtain ⟨j, rfl⟩ := Int.eq_ofNat_of_zero_le hz
          have hls := Sha.low_step X (bits / 16) j (by omega)
          have hll := Sha.low_lt X (bits / 16) j (by omega)
          rw [show ((j : Int) + 1).toNat = j + 1 by omega]
          have q1 := HRR.out.cell (j := j) (by omega)
          have hd := Sha.dig_lt X j
          obtain ⟨y, hy⟩ : ∃ y, y = X % 65536 ^ (bits / 16) / 65536 ^ (j + 1) := ⟨_, rfl⟩
          obtain ⟨d, hdd⟩ : ∃ d, d = Sha.dig X j := ⟨_, rfl⟩
          rw [← hy, ← hdd] at hls
          rw [← hy] at hll ⊢
          rw [← hdd] at q1 hd
          have hll : y < 281474976710656 := hll
          have hor : bits_or ((y : Int) * 65536) (d : Int) = ((y * 65536 + d : Nat) : Int) := by
            have := or_u64 (y * 65536) d (by omega) (by omega)
            rw [show ((y : Int) * 65536) = ((y * 65536 : Nat) : Int) by omega]
            refine Eq.trans this ?_
            have h2 := Nat.shiftLeft_add_eq_or_of_lt (show d < 2 ^ 16 by omega) y
            rw [Nat.shiftLeft_eq] at h2
            rw [show y * 65536 = y * 2 ^ 16 from rfl, h2]
          unfold bits_or at hor
          have HLS := Lib.hid hls
          clear hls hy hdd
          go_wp2_with fail
          go_round
          case rel => exact ⟨(j : Int) - 1, by omega, by omega, rfl, by rw [show ((j : Int) - 1 + 1).toNat = j by omega, HLS.out]; go_num⟩
          case measure => simp [intOf]
        · obtain rfl : z = -1 := by omega
          go_wp2_with fail
          go_ret
          exact ⟨by rw [HFIN.out]; simp, by rw [← HB0.out]; exact HBR.out⟩
end Go.Proofs.YtilpbjcbffbjeaaGreatDoor
namespace Go.Proofs.YtilpbjcbffbjeaaGreatDoor
set_option linter.unusedVariables false
open Go.RowKit
/-- v holds the numbers l, in a block of its own from base on. -/
def Owns64 (w : World) (base : Nat) (v : Value) (l : List Nat) : Prop := w.ownsRow base 199 1 v l.length (nums .u64 l)
section
variable {P : Program} {ops : Array Oper} {rest : List Oper} {o : Oper} {a : Act} {w w' : World} {Q : Exit → Act → World → Prop} {base : Nat} {v : Value} {l : List Nat}
theorem Owns64.grown {row : Option Nat} (h : Owns64 w base v l) (hg : w.grownBy w' row) (hne : v.ownBlock = none ∨ v.ownBlock ≠ row) : Owns64 w' base v l := World.ownsRow.kept h hg hne
theorem Owns64.below (h : Owns64 w base v l) (hb : Below w.heap.size w w') : Owns64 w' base v l :=
  h.grown (row := none) ⟨hb.os, hb.tape, hb.output, hb.size, fun k hk _ => hb.block k hk⟩ (by cases hv : v.ownBlock <;> simp)
theorem Owns64.alloc (h : Owns64 w base v l) (ob : Obj) : Owns64 (w.alloc ob) base v l := World.ownsRow.alloc h ob
theorem Owns64.block (h : Owns64 w base v l) {k : Nat} (hk : v.ownBlock = some k) : base ≤ k ∧ k < w.heap.size := World.ownsRow.lt h k hk
theorem Owns64.lit (w : World) (l : List Nat) (c : Array Value) (hb : base ≤ w.heap.size) (hc : c = (nums .u64 l).toArray) (hm : l.length ≤ maxLen) :
    Owns64 (w.alloc (.cells c 199)) base (.slice (some ⟨w.heap.size, 0, none⟩) l.length l.length) l := by
  subst hc
  refine ⟨by simp [nums], .inr ⟨w.heap.size, l.length, _, rfl, hb, heap_alloc_new w _, Nat.le_refl _, hm, by simp [nums], ?_⟩⟩
  simp only [nums, Nat.mul_one]
  exact List.take_of_length_le (by simp)
theorem Owns64.shape (h : Owns64 w base v l) : ∃ p cap, v = .slice p l.length cap := by
  rcases h.2 with ⟨rfl, hn⟩ | ⟨g, cap, cur, rfl, _⟩
  · rw [hn]; exact ⟨none, 0, rfl⟩
  · exact ⟨_, cap, rfl⟩
/-- What it is, and where it lies. -/
theorem Owns64.form (h : Owns64 w base v l) (h0 : 0 < l.length) : ∃ g cap, v = .slice (some ⟨g, 0, none⟩) l.length cap ∧ base ≤ g ∧ l.length ≤ cap ∧ Cells64 w g l.length (fun j => l.getD j 0) ∧ ∀ j, w.frozen? ⟨g, j, none⟩ = false := by
  rcases h.2 with ⟨_, hn⟩ | ⟨g, cap, cur, rfl, hb, hg, hnc, _, hcs, htake⟩
  · omega
  · refine ⟨g, cap, rfl, hb, hnc, fun j hj => ?_, fun j => frozen_of_row w g j _ _ hg⟩
    have h1 := World.ownsRow.cellAt (w := w) (base := base) (e := 199) (size := 1) (g := g) (cap := cap) (n := l.length) (xs := nums .u64 l) h j (by omega)
    rw [h1]
    simp [nums, hj]
/-- append of numbers, to numbers. -/
theorem wpList_append_u64 (hgd : o.guard = none) (s x : Operand) (t : TypeId) (ho : o.op = .call { callee := .builtin .append, args := #[s, x], argTypes := #[t, t] })
    (ht : P.underlying t = some (.slice 199)) (hi : (P.info? 199).map (fun i => (i.zero, i.size, i.bytes)) = some (some (.int .u64 0), 1, 8))
    (hs : a.eval s = v) (hown : Owns64 w base v l) (ad : Addr) (m c : Nat) (news : List Nat) (hx : a.eval x = .slice (some ad) m c) (hm : news.length = m)
    (hnews : ∀ j, j < m → w.cell? (ad.add j) = some (.int .u64 (news.getD j 0 : Nat))) (hsz : l.length + m ≤ 1000000) (hbase : base ≤ w.heap.size)
    (h : ∀ v' w', Owns64 w' base v' (l ++ news) → w.grownBy w' v.ownBlock → (v'.ownBlock = v.ownBlock ∨ v'.ownBlock = some w.heap.size) → wpList P ops Q rest (a.put o.dst v') w') : wpList P ops Q (o :: rest) a w := by
  obtain ⟨i0, hi0, hz0, hz1, hz2⟩ := info_parts hi
  refine wpList_append_own_at w hgd s x t ho base 199 i0 (.int .u64 0) 1 8 ht hi0 hz0 hz1 hz2 rfl (by decide) v l.length (nums .u64 l) hs hown ad m c (nums .u64 news) hx (by rw [length_nums]; omega) ?_ (oneCell_nums .u64 news) (by unfold maxLen; omega) (by omega) hbase ?_
  · intro j u hu
    have hj : j < news.length := by rw [← length_nums .u64 news]; exact (List.getElem?_eq_some_iff.1 hu).1
    rw [hnews j (by omega), ← hu]
    simp [nums, hj]
  · intro v' w' h1 h2 _ h4
    refine h v' w' ?_ h2 h4
    unfold Owns64
    rw [List.length_append, hm]
    have : nums .u64 (l ++ news) = nums .u64 l ++ nums .u64 news := by simp [nums]
    rw [this]; exact h1
end
theorem isPrime_take (l : List Nat) (p i : Nat) (h : i < l.length) : Sha.isPrimeBy (l.take (i + 1)) p = (Sha.isPrimeBy (l.take i) p && (p % l.getD i 0 != 0)) := by
  unfold Sha.isPrimeBy
  rw [take_succ_getD l i 0 h, List.all_append]
  simp
set_option maxRecDepth 100000 in
set_option maxHeartbeats 400000 in
theorem primesW (w : World) : Calls Tryz.prog 162 #[.int .i64 80] w fun e w' => ∃ g cap, e = .returned (.slice (some ⟨g, 0, none⟩) 80 cap) ∧ Cells64 w' g 80 (fun j => Sha.primes80.getD j 0) ∧ Below w.heap.size w w' ∧ w.heap.size ≤ g := by
  go_enter Tryz.func162, Tryz.ntmps162
  go_wp2_with fail
  have ho : Owns64 (w.alloc (.cells #[] 199)) w.heap.size (.slice (some ⟨w.heap.size, 0, none⟩) 0 0) [] := Owns64.lit w [] #[] (Nat.le_refl _) rfl (by decide)
  have hb : Below w.heap.size w (w.alloc (.cells #[] 199)) := (Below.refl _ _).alloc (Nat.le_refl _) _
  have hs : w.heap.size ≤ (w.alloc (.cells #[] 199)).heap.size := by simp
  obtain ⟨W1, hW1⟩ : ∃ v, v = w.alloc (.cells #[] 199) := ⟨_, rfl⟩
  rw [← hW1] at ho hb hs ⊢
  obtain ⟨base, hbase⟩ : ∃ b, b = w.heap.size := ⟨_, rfl⟩
  rw [← hbase] at ho hb hs ⊢
  have HO := Lib.hid ho
  have HB := Lib.hid hb
  have HS := Lib.hid hs
  have HBASE := Lib.hid hbase
  clear ho hb hs hW1 hbase
  go_loopw [3, 4] (fun vl vp wr => ∃ p : Nat, 2 ≤ p ∧ p ≤ 410 ∧ vp = .int .u64 (p : Nat) ∧ Owns64 wr base vl (Sha.primesBelow p) ∧ base ≤ wr.heap.size ∧ Below base w wr) (fun _ vp _ => (410 - intOf vp).toNat)
  case atStart => exact ⟨2, by omega, by omega, rfl, by rw [Sha.primesBelow_two]; exact HO.out, HS.out, HB.out⟩
  case round =>
    obtain ⟨p, hp2, hp, rfl, ho, hs, hb⟩ := hrel
    obtain ⟨vp, vc, rfl⟩ := ho.shape
    obtain ⟨L, hL⟩ : ∃ L, L = Sha.primesBelow p := ⟨_, rfl⟩
    rw [← hL] at ho ⊢
    have HO := Lib.hid ho
    have HB := Lib.hid hb
    have HS := Lib.hid hs
    have HLL := Lib.hid hL
    clear ho hb hs
    by_cases hlt : p < 410
    · have hst := Sha.primesBelow_step hp2 hlt
      rw [← hL] at hst
      obtain ⟨N, hN⟩ : ∃ N, N = L.length := ⟨_, rfl⟩
      have hN80 : N < 80 := by rw [hN]; exact hst.1
      have HST := Lib.hid hst.2
      have HNN := Lib.hid hN
      have ho := HO.out
      rw [← hN] at ho ⊢
      clear hst hL HO hN
      have HO := Lib.hid ho
      clear ho
      go_wp2_with fail
      obtain ⟨wo, rfl⟩ : ∃ wo : World, wo = wr := ⟨_, rfl⟩
      go_loop [5, 6] (fun vb vi => ∃ i : Nat, i ≤ N ∧ vi = .int .i64 (i : Nat) ∧ vb = .bool (Sha.isPrimeBy (L.take i) p)) (fun _ vi => (N - intOf vi).toNat)
      case atStart => exact ⟨0, by omega, rfl, rfl⟩
      case round =>
        obtain ⟨i, hi, rfl, rfl⟩ := hrel
        by_cases hit : i < N
        · have hnx := isPrime_take L p i (by rw [← HNN.out]; exact hit)
          obtain ⟨b, hb⟩ : ∃ b, b = Sha.isPrimeBy (L.take i) p := ⟨_, rfl⟩
          rw [← hb] at hnx ⊢
          clear hb
          cases b with
          | false =>
            have HNX := Lib.hid hnx
            clear hnx
            go_wp2_with fail
            go_round
            case rel => exact ⟨i + 1, by omega, by go_num, by rw [HNX.out]; rfl⟩
            case measure => simp [intOf]; omega
          | true =>
            obtain ⟨g, cap, hv, _, _, hcs, _⟩ := HO.out.form (by rw [← HNN.out]; omega)
            rw [← HNN.out] at hv hcs
            injection hv with hv1 hv2 hv3
            subst hv1
            have q1 : wo.cell? ⟨g, i, none⟩ = some (.int .u64 (L.getD i 0 : Nat)) := hcs i hit
            have hq := Sha.primesBelow_pos (p := p) (q := L.getD i 0) (by
              rw [← HLL.out, List.getD_eq_getElem?_getD, List.getElem?_eq_getElem (by rw [← HNN.out]; exact hit)]
              exact List.getElem_mem _)
            obtain ⟨q, hqq⟩ : ∃ q, q = L.getD i 0 := ⟨_, rfl⟩
            rw [← hqq] at hnx q1 hq
            obtain ⟨hq0, hq1⟩ := hq
            obtain ⟨r, hr⟩ : ∃ r, r = p % q := ⟨_, rfl⟩
            have hrq : r < q := by rw [hr]; exact Nat.mod_lt _ hq0
            have hrr : (p : Int) % (q : Int) = (r : Int) := by rw [hr]; simp
            rw [← hr] at hnx
            have HNX := Lib.hid hnx
            clear hnx hcs hqq hr hv2 hv3
            go_wp2_with fail
            refine ⟨⟨i + 1, by omega, by go_num, ?_⟩, by simp [intOf]; omega⟩
            rw [HNX.out, Bool.true_and]
            congr 1
            rw [Bool.eq_iff_iff, bne_iff_ne, bne_iff_ne]
            omega
        · have hiN : i = N := by omega
          rw [show L.take i = L by rw [hiN, HNN.out, List.take_length]]
          have hst2 := HST.out
          obtain ⟨b, hb⟩ : ∃ b, b = Sha.isPrimeBy L p := ⟨_, rfl⟩
          rw [← hb] at hst2 ⊢
          have HST2 := Lib.hid hst2
          clear hb hst2 HST hiN
          cases b with
          | false =>
            go_wp2_with fail
            refine ⟨⟨p + 1, by omega, by omega, rfl, ?_, HS.out, HB.out⟩, by simp [intOf]; omega⟩
            have h1 := HST2.out
            rw [if_neg (by decide)] at h1
            rw [h1]; exact HO.out
          | true =>
            have h1 := HST2.out
            rw [if_pos rfl] at h1
            have H1 := Lib.hid h1
            clear h1
            go_wp2_with (at_builtin; refine wpList_append_u64 rfl _ _ 228 rfl Tryz.underlying228 info58 rfl (HO.out.alloc _) ⟨wo.heap.size, 0, none⟩ 1 1 [p] rfl rfl ?c1 ?c2 ?c3 ?_)
            case c2 => rw [← HNN.out]; omega
            case c3 => have := HS.out; simp; omega
            intro v' w2 ho2 hg2 _
            rw [← H1.out] at ho2
            have HO2 := Lib.hid ho2
            have HB2 := Lib.hid ((HB.out.alloc HS.out _).grown hg2 (by have := HS.out; simp; omega) (fun k hk => (HO.out.block hk).1))
            have HS2 : Hid (base ≤ w2.heap.size) := Nat.le_trans (Nat.le_trans HS.out (by simp)) hg2.size
            clear ho2 hg2
            go_wp2_with fail
            exact ⟨⟨p + 1, by omega, by omega, rfl, HO2.out, HS2.out, HB2.out⟩, by simp [intOf]; omega⟩
    · obtain rfl : p = 410 := by omega
      rw [Sha.primesBelow_end] at hL
      subst hL
      have h80 : Sha.primes80.length = 80 := by decide
      obtain ⟨g, cap, hv, hg, _, hcs, _⟩ := HO.out.form (by rw [h80]; decide)
      rw [h80] at hv hcs ⊢
      injection hv with hv1 hv2 hv3
      subst hv1
      have HCS := Lib.hid hcs
      clear hcs h80 hv2 hv3 HLL HO
      go_wp2_with fail
      go_ret
      have h := HBASE.out
      subst h
      exact ⟨g, vc, rfl, HCS.out, HB.out, hg⟩
end Go.Proofs.YtilpbjcbffbjeaaGreatDoor
namespace Go.Proofs.YtilpbjcbffbjeaaGreatDoor
set_option linter.unusedVariables false
open Go.RowKit
theorem shl_nat64 (x n : Nat) : (x : Int) * 2 ^ n % 18446744073709551616 = ((x * 2 ^ n % 2 ^ 64 : Nat) : Int) := by simp
/-- A kind is loaded whole: taken ahead of any unfolding. -/
def kindLoad (v : Value) : Sem Next := do return .value (← Instr.loadAt 230 v)
@[go_sem ↓] theorem execOp_load51 (a : Act) (dst : Option Tmp) (t : Tmp) (ty : TypeId) (pos : String) (after : Array Edge) (guard : Option (Nat × Bool)) :
    execOp a.eval { dst, op := .load 230 (.tmp t), type := ty, pos, after, guard } = kindLoad (a.eval (.tmp t)) := rfl
theorem run_kindLoad (w : World) (g : Nat) (cs : Array Value) (hn : cs.size = 17) (hg : w.heap[g]? = some (.cells cs 230 (0, 0))) : (kindLoad (.pointer (some ⟨g, 0, none⟩))).run Tryz.prog w = .ok (.value (.agg cs)) w := by
  unfold kindLoad
  simp only [Instr.loadAt, Instr.sureAddr, Sem.run_bind, Sem.run_pure, Result.andThen_ok, run_loadVar_row w g 230 230 cs (0, 0) _ hg Tryz.underlying230 rfl (by rw [hn]; kernel_rfl)]
/-- A kind's seventeen cells, of which the first holds the bits. -/
structure KCells (cs : Array Value) (wd : Nat) : Prop where
  n : cs.size = 17
  c0 : cs[0]? = some (.int .i64 (wd : Nat))
theorem KCells.cell {cs : Array Value} {wd : Nat} (_ : KCells cs wd) (w : World) (j : Nat) (v : Value) (hv : cs[j]? = some v) : (w.alloc (.cells cs 230)).cell? ⟨w.heap.size, j, none⟩ = some v := by
  rw [cell_of_row _ w.heap.size j cs 230 (0, 0) (heap_alloc_new w _), hv]
set_option maxRecDepth 100000 in
set_option maxHeartbeats 400000 in
theorem cut64W (cs : Array Value) (hk : KCells cs 64) (x : Nat) (w : World) :
    Calls Tryz.prog 165 #[.agg cs, .int .u64 (x : Nat)] w fun e w' => e = .returned (.int .u64 (x : Nat)) ∧ Below w.heap.size w w' := by
  have h0 := hk.c0
  have hc := hk.cell w 0 _ hk.c0
  go_enter Tryz.func165, Tryz.ntmps165
  go_wp2_with fail
  go_ret
  exact ⟨rfl, (Below.refl _ _).alloc (Nat.le_refl _) _⟩
theorem and32 (x : Nat) (hx : x < 2 ^ 64) : bits .and .u64 (x : Int) 4294967295 = ((x % 2 ^ 32 : Nat) : Int) := by
  have := and_u64 x 4294967295 hx (by decide)
  rw [show (4294967295 : Int) = ((4294967295 : Nat) : Int) from rfl, this, show 4294967295 = 2 ^ 32 - 1 from rfl, Nat.and_two_pow_sub_one_eq_mod]
set_option maxRecDepth 100000 in
set_option maxHeartbeats 400000 in
theorem cut32W (cs : Array Value) (hk : KCells cs 32) (x : Nat) (hx : x < 2 ^ 64) (w : World) :
    Calls Tryz.prog 165 #[.agg cs, .int .u64 (x : Nat)] w fun e w' => e = .returned (.int .u64 (x % 2 ^ 32 : Nat)) ∧ Below w.heap.size w w' := by
  have h0 := hk.c0
  have hc := hk.cell w 0 _ hk.c0
  obtain ⟨y, hy⟩ : ∃ y, y = x % 2 ^ 32 := ⟨_, rfl⟩
  have ha : bits .and .u64 (x : Int) 4294967295 = (y : Int) := by rw [hy]; exact and32 x hx
  rw [← hy]
  clear hy hx
  go_enter Tryz.func165, Tryz.ntmps165
  go_wp2_with fail
  go_ret
  exact ⟨rfl, (Below.refl _ _).alloc (Nat.le_refl _) _⟩
/-- The kind's bits. -/
def WD (wd : Nat) : Prop := wd = 32 ∨ wd = 64
theorem rcutW (cs : Array Value) (wd : Nat) (hw : WD wd) (hk : KCells cs wd) (x : Nat) (hx : x < 2 ^ 64) (w : World) :
    Calls Tryz.prog 165 #[.agg cs, .int .u64 (x : Nat)] w fun e w' => e = .returned (.int .u64 (x % 2 ^ wd : Nat)) ∧ Below w.heap.size w w' := by
  rcases hw with rfl | rfl
  · exact cut32W cs hk x hx w
  · rw [Nat.mod_eq_of_lt hx]; exact cut64W cs hk x w
theorem ror_cut (wd x n : Nat) (hw : WD wd) (hx : x < 2 ^ wd) : ((x / 2 ^ n) ||| (x * 2 ^ (wd - n) % 2 ^ 64)) % 2 ^ wd = Sha.ror wd x n := by
  have h64 : wd ≤ 64 := by rcases hw with rfl | rfl <;> decide
  unfold Sha.ror
  rw [Nat.or_mod_two_pow, Nat.mod_eq_of_lt (Nat.lt_of_le_of_lt (Nat.div_le_self _ _) hx), Nat.mod_mod_of_dvd _ (Nat.pow_dvd_pow 2 h64)]
set_option maxRecDepth 100000 in
set_option maxHeartbeats 400000 in
theorem rorW (cs : Array Value) (wd : Nat) (hw : WD wd) (hk : KCells cs wd) (x n : Nat) (hx : x < 2 ^ wd) (hn : n ≤ wd) (w : World) :
    Calls Tryz.prog 166 #[.agg cs, .int .u64 (x : Nat), .int .i64 (n : Nat)] w fun e w' => e = .returned (.int .u64 (Sha.ror wd x n : Nat)) ∧ Below w.heap.size w w' := by
  have hx64 : x < 2 ^ 64 := by rcases hw with rfl | rfl <;> omega
  have hwd64 : wd ≤ 64 := by rcases hw with rfl | rfl <;> decide
  have h0 := hk.c0
  have hc := hk.cell w 0 _ hk.c0
  have hc' : ∀ t : Grow (w.alloc (.cells cs 230)), t.val.cell? ⟨w.heap.size, 0, none⟩ = some (.int .i64 (wd : Nat)) := fun t => t.cell hc
  obtain ⟨y, hy⟩ : ∃ y, y = (x / 2 ^ n) ||| (x * 2 ^ (wd - n) % 2 ^ 64) := ⟨_, rfl⟩
  have hy64 : y < 2 ^ 64 := by rw [hy]; exact Nat.or_lt_two_pow (Nat.lt_of_le_of_lt (Nat.div_le_self _ _) hx64) (Nat.mod_lt _ (by decide))
  have hyr : y % 2 ^ wd = Sha.ror wd x n := by rw [hy]; exact ror_cut wd x n hw hx
  have HYR := Lib.hid hyr
  have HY64 := Lib.hid hy64
  have HW := Lib.hid hw
  have HK := Lib.hid hk
  have hor : bits_or ((x : Int) / 2 ^ n) (IntKind.u64.wrap ((x : Int) * 2 ^ (wd - n))) = (y : Int) := by
    rw [hy, shr_nat, IntKind.wrap_u64, shl_nat64]
    exact or_u64 _ _ (Nat.lt_of_le_of_lt (Nat.div_le_self _ _) hx64) (Nat.mod_lt _ (by decide))
  unfold bits_or at hor
  have hld : ∀ t : Grow (w.alloc (.cells cs 230)), (kindLoad (.pointer (some ⟨w.heap.size, 0, none⟩))).run Tryz.prog t.val = .ok (.value (.agg cs)) t.val := fun t =>
    run_kindLoad _ _ _ hk.n (by rw [t.below.block _ (by simp)]; exact heap_alloc_new w _)
  clear hy hyr hy64 hx hx64 hk hw
  go_enter Tryz.func166, Tryz.ntmps166
  go_wp2_with fail
  refine wp_region_fam (by kernel_rfl) (by kernel_rfl) Grow.val (Grow.start _) ?_
  repeat go_big_quiet_step ((with_reducible refine Calls.fam_of (rcutW cs wd HW.out HK.out y HY64.out _) (Grow.more _)))
  refine wpQuiet_nil ?_
  intro t
  go_wp2_with fail
  go_ret
  exact ⟨by rw [HYR.out]; rfl, ((Below.refl _ _).alloc (Nat.le_refl _) _).trans (t.below.mono (by simp))⟩
end Go.Proofs.YtilpbjcbffbjeaaGreatDoor
namespace Go.Proofs.YtilpbjcbffbjeaaGreatDoor
set_option linter.unusedVariables false
open Go.RowKit
/-- A number's bytes, so many, the highest first. -/
def rbAt (x many j : Nat) : Nat := if 7 < many - 1 - j then 0 else x / 2 ^ (8 * (many - 1 - j)) % 256
def rb (x many : Nat) : List Nat := (List.range many).map (rbAt x many)
theorem length_rb (x many : Nat) : (rb x many).length = many := by simp [rb]
theorem rbTo_succ (x many j : Nat) : (List.range (j + 1)).map (rbAt x many) = (List.range j).map (rbAt x many) ++ [rbAt x many j] := by simp [List.range_succ]
theorem rb_lt (x many : Nat) : ∀ c ∈ rb x many, c < 256 := by
  intro c hc
  obtain ⟨j, _, rfl⟩ := List.mem_map.1 hc
  unfold rbAt
  split
  · decide
  · exact Nat.mod_lt _ (by decide)
def bits_and (a b : Int) : Int := bits .and .u64 a b
set_option maxRecDepth 100000 in
set_option maxHeartbeats 400000 in
theorem rbytesW (x many : Nat) (hx : x < 2 ^ 64) (hm : many ≤ 1000) (w : World) :
    Calls Tryz.prog 164 #[.int .u64 (x : Nat), .int .i64 (many : Nat)] w fun e w' => ∃ v, e = .returned v ∧ Owns w' w.heap.size 5 v (rb x many) ∧ Below w.heap.size w w' := by
  have HX := Lib.hid hx
  clear hx
  go_enter Tryz.func164, Tryz.ntmps164
  go_wp2_with fail
  have ho : Owns (w.alloc (.cells #[] 5)) w.heap.size 5 (.slice (some ⟨w.heap.size, 0, none⟩) 0 0) [] := Owns.lit w [] #[] (Nat.le_refl _) rfl (by decide)
  have hb : Below w.heap.size w (w.alloc (.cells #[] 5)) := (Below.refl _ _).alloc (Nat.le_refl _) _
  have hs : w.heap.size ≤ (w.alloc (.cells #[] 5)).heap.size := by simp
  obtain ⟨W1, hW1⟩ : ∃ v, v = w.alloc (.cells #[] 5) := ⟨_, rfl⟩
  rw [← hW1] at ho hb hs ⊢
  obtain ⟨base, hbase⟩ : ∃ b, b = w.heap.size := ⟨_, rfl⟩
  rw [← hbase] at ho hb hs ⊢
  have HO := Lib.hid ho
  have HB := Lib.hid hb
  have HS := Lib.hid hs
  have HBASE := Lib.hid hbase
  clear ho hb hs hW1 hbase
  go_loopw [5, 6] (fun vl vi wr => ∃ (z : Int) (j : Nat), -1 ≤ z ∧ z + 1 + j = many ∧ vi = .int .i64 z ∧ Owns wr base 5 vl ((List.range j).map (rbAt x many)) ∧ base ≤ wr.heap.size ∧ Below base w wr) (fun _ vi _ => (intOf vi + 1).toNat)
  case atStart => exact ⟨(many : Int) - 1, 0, by omega, by omega, rfl, HO.out, HS.out, HB.out⟩
  case round =>
    obtain ⟨z, j, hz1, hz2, rfl, ho, hs, hb⟩ := hrel
    have HO := Lib.hid ho
    have HB := Lib.hid hb
    have HS := Lib.hid hs
    have hzm : z + 1 + j ≤ many := by omega
    have hzm2 : (many : Int) ≤ z + 1 + j := by omega
    clear ho hb hs hz2
    by_cases hz : 0 ≤ z
    · obtain ⟨i, rfl⟩ := Int.eq_ofNat_of_zero_le hz
      have hrb : rbAt x many j = if 7 < i then 0 else x / 2 ^ (8 * i) % 256 := by unfold rbAt; rw [show many - 1 - j = i by omega]
      by_cases h7 : 7 < i
      · rw [if_pos h7] at hrb
        have HRB := Lib.hid hrb
        clear hrb
        go_wp2_with (at_builtin; refine wpList_append_bytes rfl _ _ 126 rfl Tryz.underlying126 info5 rfl (HO.out.alloc _) ⟨wr.heap.size, 0, none⟩ 1 1 [0] rfl rfl ?c1 ?c2 ?c3 ?_)
        case c1 => intro k hk; obtain rfl : k = 0 := by omega
                   simp [Addr.add]
        case c2 => rw [List.length_map, List.length_range]; simp; omega
        case c3 => have := HS.out; simp; omega
        intro v' w2 ho2 hg2 _
        rw [← HRB.out, ← rbTo_succ] at ho2
        have HO2 := Lib.hid ho2
        have HB2 := Lib.hid ((HB.out.alloc HS.out _).grown hg2 (by have := HS.out; simp; omega) (fun k hk => (HO.out.block hk).1))
        have HS2 : Hid (base ≤ w2.heap.size) := Nat.le_trans (Nat.le_trans HS.out (by simp)) hg2.size
        clear ho2 hg2
        go_wp2_with fail
        exact ⟨⟨(i : Int) - 1, j + 1, by omega, by omega, rfl, HO2.out, HS2.out, HB2.out⟩, by simp [intOf]⟩
      · rw [if_neg h7] at hrb
        obtain ⟨q, hq⟩ : ∃ q, q = x / 2 ^ (8 * i) := ⟨_, rfl⟩
        have hq64 : q < 18446744073709551616 := by rw [hq]; exact Nat.lt_of_le_of_lt (Nat.div_le_self _ _) HX.out
        have hqq : (x : Int) / 2 ^ (8 * i) = (q : Int) := by rw [hq, shr_nat]
        rw [← hq] at hrb
        obtain ⟨c, hc⟩ : ∃ c, c = q % 256 := ⟨_, rfl⟩
        have hc256 : c < 256 := by omega
        rw [← hc] at hrb
        have hand : bits_and (q : Int) 255 = (c : Int) := by
          have := and_u64 q 255 hq64 (by decide)
          refine Eq.trans this ?_
          rw [show 255 = 2 ^ 8 - 1 from rfl, Nat.and_two_pow_sub_one_eq_mod, hc]
        unfold bits_and at hand
        have HRB := Lib.hid hrb
        clear hrb hq hc
        go_wp2_with (at_builtin; refine wpList_append_bytes rfl _ _ 126 rfl Tryz.underlying126 info5 rfl (HO.out.alloc _) ⟨wr.heap.size, 0, none⟩ 1 1 [c] rfl rfl ?d1 ?d2 ?d3 ?_)
        case d1 => intro k hk; obtain rfl : k = 0 := by omega
                   simp [Addr.add]
        case d2 => rw [List.length_map, List.length_range]; simp; omega
        case d3 => have := HS.out; simp; omega
        intro v' w2 ho2 hg2 _
        rw [← HRB.out, ← rbTo_succ] at ho2
        have HO2 := Lib.hid ho2
        have HB2 := Lib.hid ((HB.out.alloc HS.out _).grown hg2 (by have := HS.out; simp; omega) (fun k hk => (HO.out.block hk).1))
        have HS2 : Hid (base ≤ w2.heap.size) := Nat.le_trans (Nat.le_trans HS.out (by simp)) hg2.size
        clear ho2 hg2
        go_wp2_with fail
        exact ⟨⟨(i : Int) - 1, j + 1, by omega, by omega, rfl, HO2.out, HS2.out, HB2.out⟩, by simp [intOf]⟩
    · have hjm : j = many := by omega
      go_wp2_with fail
      go_ret
      have h := HBASE.out
      subst h
      exact ⟨_, rfl, by rw [hjm] at HO; exact HO.out, HB.out⟩
end Go.Proofs.YtilpbjcbffbjeaaGreatDoor
namespace Go.Proofs.YtilpbjcbffbjeaaGreatDoor
set_option linter.unusedVariables false
open Go.RowKit
/-- The kinds' cells. -/
def rk32 (vK vF : Value) : Array Value := #[.int .i64 32, .int .i64 64, .int .i64 32, .int .i64 7, .int .i64 18, .int .i64 3, .int .i64 17, .int .i64 19, .int .i64 10, .int .i64 6, .int .i64 11, .int .i64 25, .int .i64 2, .int .i64 13, .int .i64 22, vK, vF]
def rk64 (vK vF : Value) : Array Value := #[.int .i64 64, .int .i64 80, .int .i64 48, .int .i64 1, .int .i64 8, .int .i64 7, .int .i64 19, .int .i64 61, .int .i64 6, .int .i64 14, .int .i64 18, .int .i64 41, .int .i64 28, .int .i64 34, .int .i64 39, vK, vF]
def rkz : Array Value := #[.int .i64 0, .int .i64 0, .int .i64 0, .int .i64 0, .int .i64 0, .int .i64 0, .int .i64 0, .int .i64 0, .int .i64 0, .int .i64 0, .int .i64 0, .int .i64 0, .int .i64 0, .int .i64 0, .int .i64 0, .slice none 0 0, .slice none 0 0]
def nilV : Value := .slice none 0 0
def sl (g n c : Nat) : Value := .slice (some ⟨g, 0, none⟩) n c
theorem one_rk32 (vK vF : Value) (h1 : vK.oneCell' = true) (h2 : vF.oneCell' = true) : ∀ v ∈ (rk32 vK vF).toList, v.oneCell' = true := by
  intro v hv
  simp only [rk32, List.mem_cons, List.not_mem_nil, or_false] at hv
  rcases hv with rfl | rfl | rfl | rfl | rfl | rfl | rfl | rfl | rfl | rfl | rfl | rfl | rfl | rfl | rfl | rfl | rfl <;> first | rfl | assumption
theorem one_rk64 (vK vF : Value) (h1 : vK.oneCell' = true) (h2 : vF.oneCell' = true) : ∀ v ∈ (rk64 vK vF).toList, v.oneCell' = true := by
  intro v hv
  simp only [rk64, List.mem_cons, List.not_mem_nil, or_false] at hv
  rcases hv with rfl | rfl | rfl | rfl | rfl | rfl | rfl | rfl | rfl | rfl | rfl | rfl | rfl | rfl | rfl | rfl | rfl <;> first | rfl | assumption
/-- A call of a Go function, as one step of a region that draws. -/
theorem hstep_calls {P : Program} {ops : Array Oper} {o : Oper} {a : Act} {w : World} {K : Act → World → Prop} {Q : Exit → Act → World → Prop} {E : Prop} (hgd : o.guard = none) (f : FuncId) (xs : Array Operand) (ats : Array TypeId)
    (ho : o.op = .call { callee := .value (.func f), args := xs, argTypes := ats }) (args : Array Value) (hargs : xs.map a.eval = args) (hent : ∀ args w, (callFunc f args).run P w = .ok (.enter f args) w) (v : Value) (R : World → Prop)
    (hc : Calls P f args w fun e w' => e = .returned v ∧ R w') (h : ∀ w', R w' → K (a.put o.dst v) w') :
    if Region.wanted o (yielded ops a.tmps) = true then Oper.wp P o a w K Q else E := by
  rw [if_pos (by simp [Region.wanted, hgd])]
  have hrun : (execOp a.eval o).run P w = .ok (.enter f args) w := by
    have e : execOp a.eval o = callFunc f (#[] ++ xs.map a.eval ++ #[]) := by
      obtain ⟨dst, op, ty, pos, after, guard⟩ := o
      simp only at ho
      subst ho
      rfl
    rw [e, hargs]
    simpa using hent args w
  unfold Oper.wp
  rw [hrun]
  refine hc.mono ?_
  rintro e w' ⟨rfl, hr⟩
  exact h w' hr
/-- What stands in memory while a kind is made: the result's cells, the kind's own, the primes. -/
structure OfS (n0 base gP : Nat) (w wt : World) (cs : Array Value) : Prop where
  z : wt.heap[n0]? = some (.cells rkz 230 (0, 0))
  k : wt.heap[n0 + 1]? = some (.cells cs 230 (0, 0))
  p : Cells64 wt gP 80 (fun j => Sha.primes80.getD j 0)
  b : Below n0 w wt
  s : base ≤ wt.heap.size
  hp : gP < base
  hb : n0 + 2 ≤ base
section
variable {n0 base base' gP : Nat} {w wt wt' : World} {cs : Array Value}
theorem OfS.below (h : OfS n0 base gP w wt cs) (hb : Below wt.heap.size wt wt') : OfS n0 base gP w wt' cs := by
  have h1 := h.s
  have h2 := h.hb
  exact ⟨(hb.block _ (by omega)).trans h.z, (hb.block _ (by omega)).trans h.k, h.p.below hb, h.b.trans (hb.mono (by omega)), Nat.le_trans h1 hb.size, h.hp, h2⟩
theorem OfS.grown (h : OfS n0 base gP w wt cs) {r : Option Nat} (hg : wt.grownBy wt' r) (hr : ∀ k, r = some k → base ≤ k) : OfS n0 base gP w wt' cs := by
  have h1 := h.s
  have h2 := h.hb
  have h3 := h.hp
  have hbel : Below base wt wt' := (Below.refl _ _).grown hg h1 hr
  exact ⟨(hbel.block _ (by omega)).trans h.z, (hbel.block _ (by omega)).trans h.k, fun j hj => (hbel.cell (p := ⟨gP, j, none⟩) h3).trans (h.p j hj), h.b.trans (hbel.mono (by omega)), Nat.le_trans h1 hg.size, h3, h2⟩
theorem OfS.drew (h : OfS n0 base gP w wt cs) : OfS n0 base gP w wt.drew cs := ⟨h.z, h.k, h.p, h.b.drew, h.s, h.hp, h.hb⟩
theorem OfS.alloc (h : OfS n0 base gP w wt cs) (o : Obj) : OfS n0 base gP w (wt.alloc o) cs := h.below ((Below.refl _ _).alloc (Nat.le_refl _) o)
theorem OfS.cell (h : OfS n0 base gP w wt cs) (j : Nat) (v : Value) (hv : cs[j]? = some v) : wt.cell? ⟨n0 + 1, j, none⟩ = some v := (cell_of_row wt _ j cs 230 (0, 0) h.k).trans hv
theorem OfS.free (h : OfS n0 base gP w wt cs) (j : Nat) : wt.frozen? ⟨n0 + 1, j, none⟩ = false := frozen_of_row wt _ j cs 230 h.k
theorem OfS.set (h : OfS n0 base gP w wt cs) (hne : gP ≠ n0 + 1) (j : Nat) (v : Value) : OfS n0 base gP w (wt.setCell ⟨n0 + 1, j, none⟩ v) (cs.setIfInBounds j v) := by
  refine ⟨?_, heap_setCell_same wt _ j cs 230 _ h.k, fun i hi => ?_, h.b.setCell (by show n0 ≤ n0 + 1; omega) v, by simp [World.setCell]; exact h.s, h.hp, h.hb⟩
  · rw [heap_setCell_other wt _ n0 v (by show n0 ≠ n0 + 1; omega)]; exact h.z
  · exact (World.cell?_setCell_other _ _ _ _ (by intro e; injection e with e; exact hne e.symm)).trans (h.p i hi)
end
theorem grownBy_setCell (w : World) (b j : Nat) (v : Value) : w.grownBy (w.setCell ⟨b, j, none⟩ v) (some b) :=
  ⟨rfl, rfl, rfl, by simp [World.setCell], fun k _ hk => heap_setCell_other w _ k v (fun e => hk (by rw [e]))⟩
theorem of_step {n0 base gP : Nat} {w w4 : World} {cs : Array Value} {gg i cap r : Nat} {L L' : List Nat} (j : Nat) (v : Value) (hof : OfS n0 base gP w w4 cs)
    (hown : w4.ownsRow base 199 1 (.slice (some ⟨gg, 0, none⟩) (i + 1) cap) (i + 1) (nums .u64 L ++ [.int .u64 (r : Nat)])) (hlen : L.length = i) (hL : L' = L ++ [r]) :
    Owns64 (w4.setCell ⟨n0 + 1, j, none⟩ v) base (.slice (some ⟨gg, 0, none⟩) (i + 1) cap) L' := by
  have h1 : Owns64 w4 base (.slice (some ⟨gg, 0, none⟩) (i + 1) cap) L' := by
    unfold Owns64
    rw [hL, List.length_append, hlen]
    have : nums .u64 (L ++ [r]) = nums .u64 L ++ [.int .u64 (r : Nat)] := by simp [nums]
    rw [this]; exact hown
  refine h1.grown (grownBy_setCell w4 _ j v) (.inr (fun e => ?_))
  have h2 := (h1.block e).1
  have := hof.hb
  omega
theorem OfS.rebase {n0 base gP : Nat} {w wt : World} {cs : Array Value} (h : OfS n0 base gP w wt cs) : OfS n0 wt.heap.size gP w wt cs := ⟨h.z, h.k, h.p, h.b, Nat.le_refl _, Nat.lt_of_lt_of_le h.hp h.s, Nat.le_trans h.hb h.s⟩
theorem Cells64.set {w : World} {B N : Nat} {f : Nat → Nat} (h : Cells64 w B N f) (g j : Nat) (v : Value) (hne : B ≠ g) : Cells64 (w.setCell ⟨g, j, none⟩ v) B N f := fun i hi =>
  (World.cell?_setCell_other _ _ _ _ (by intro e; injection e with e; exact hne e.symm)).trans (h i hi)
theorem Cells64.grown {w w' : World} {B N : Nat} {f : Nat → Nat} (h : Cells64 w B N f) {r : Option Nat} (hg : w.grownBy w' r) (hr : r ≠ some B) : Cells64 w' B N f := fun i hi =>
  (hg.cell_far ⟨B, i, none⟩ (block_lt_of_cell (h i hi)) (fun e => hr e.symm)).trans (h i hi)
set_option maxRecDepth 100000 in
set_option maxHeartbeats 800000 in
theorem of0 (w : World) :
    Calls Tryz.prog 142 #[.int .i64 0] w fun e w' => ∃ gK cK gF cF, e = .returned (.tuple #[.agg (rk32 (sl gK 64 cK) (sl gF 8 cF)), .bool true]) ∧
      Cells64 w' gK 64 (fun j => Sha.keys32.getD j 0) ∧ Cells64 w' gF 8 (fun j => Sha.k32.init.getD j 0) ∧ Below w.heap.size w w' := by
  go_enter Tryz.func142, Tryz.ntmps142
  go_wp2_with (first
    | (with_reducible refine wpList_run (o := ⟨some 2, _, _, _, _, _⟩) rfl (.pointer (some ⟨w.heap.size, 0, none⟩)) (w.alloc (.cells rkz 230)) (by kernel_rfl) ?_)
    | (with_reducible refine wpList_pure (o := ⟨some 13, _, _, _, _, _⟩) rfl (.agg (rk32 nilV nilV)) (fun _ => by kernel_rfl) ?_)
    | (refine wpList_store_blk rfl 230 _ _ rfl (w.heap.size + 1) 0 (rk32 nilV nilV) rfl rfl rkz 230 (heap_at (by simp)) (by decide) (by kernel_rfl) (one_rk32 _ _ rfl rfl) ?_; intro w1 hh1 hg1 hs1))
  have hz : w1.heap[w.heap.size]? = some (.cells rkz 230 (0, 0)) := by
    rw [hg1.block w.heap.size (by simp; omega) (by intro e; injection e with e; omega)]
    exact (heap_lt (by simp)).trans (heap_at rfl)
  have hk : w1.heap[w.heap.size + 1]? = some (.cells (rk32 nilV nilV) 230 (0, 0)) := by rw [hh1]; rfl
  have hb : Below w.heap.size w w1 := (((Below.refl _ _).alloc (Nat.le_refl _) _).alloc (by simp) _).trans (grown_below hg1 (by omega) (by simp; omega))
  have hs : w.heap.size + 2 = w1.heap.size := by rw [hs1]; simp
  clear hh1 hg1 hs1
  obtain ⟨n0, hn0⟩ : ∃ n, n = w.heap.size := ⟨_, rfl⟩
  rw [← hn0] at hz hk hb hs ⊢
  have HN0 := Lib.hid hn0
  have HZ := Lib.hid hz
  have HKB := Lib.hid hk
  have HB := Lib.hid hb
  have hs2 : n0 + 2 ≤ w1.heap.size := by omega
  clear hn0 hz hk hb hs
  refine (primesW w1).mono ?_
  rintro e w2 ⟨gP, cP, rfl, hcP, hb2, hgP⟩
  have hgl : gP < w2.heap.size := block_lt_of_cell (hcP 0 (by decide))
  have hof : OfS n0 w2.heap.size gP w w2 (rk32 nilV nilV) := ⟨(hb2.block _ (by omega)).trans HZ.out, (hb2.block _ (by omega)).trans HKB.out, hcP, HB.out.trans (hb2.mono (by omega)), Nat.le_refl _, hgl, by have := hb2.size; omega⟩
  have hne : gP ≠ n0 + 1 := by omega
  obtain ⟨base, hbase⟩ : ∃ b, b = w2.heap.size := ⟨_, rfl⟩
  rw [← hbase] at hof
  have HOF := Lib.hid hof
  have HNE := Lib.hid hne
  clear hcP hb2 hgP hgl hof hne hbase hs2 HZ HKB HB
  go_wp2_with fail
  go_loopw [7] (fun vi wr => ∃ (i : Nat) (vK : Value), i ≤ 64 ∧ vi = .int .i64 (i : Nat) ∧ OfS n0 base gP w wr (rk32 vK nilV) ∧ Owns64 wr base vK ((Sha.primes80.take i).map (fun p => Sha.root p 3 32))) (fun vi _ => (64 - intOf vi).toNat)
  case atStart => exact ⟨0, nilV, by omega, rfl, HOF.out, World.ownsRow_nil _ _ _ _⟩
  case round =>
    obtain ⟨i, vK, hi, rfl, hof, ho⟩ := hrel
    have HF := Lib.hid hof
    obtain ⟨vp, vc, rfl⟩ := ho.shape
    rw [List.length_map, List.length_take, show min i Sha.primes80.length = i from by rw [Nat.min_def, if_pos (by show i ≤ 80; omega)]] at hof ho HF
    clear hof
    have HO := Lib.hid ho
    clear ho
    have c1 := HF.out.cell 1 (.int .i64 64) rfl
    by_cases hlt : i < 64
    · have hp16 : Sha.primes80.getD i 0 < 512 := by
        have := Sha.primes80_pos (Sha.primes80.getD i 0) (by
          rw [List.getD_eq_getElem?_getD, List.getElem?_eq_getElem (show i < Sha.primes80.length by show i < 80; omega)]
          exact List.getElem_mem _)
        exact this.2
      have hnx : (Sha.primes80.take (i + 1)).map (fun p => Sha.root p 3 32) = (Sha.primes80.take i).map (fun p => Sha.root p 3 32) ++ [Sha.root (Sha.primes80.getD i 0) 3 32] := by
        rw [take_succ_getD _ i 0 (show i < Sha.primes80.length by show i < 80; omega), List.map_append]; rfl
      obtain ⟨p, hp⟩ : ∃ p, p = Sha.primes80.getD i 0 := ⟨_, rfl⟩
      rw [← hp] at hp16 hnx
      obtain ⟨r, hr⟩ : ∃ r, r = Sha.root p 3 32 := ⟨_, rfl⟩
      rw [← hr] at hnx
      have hc : ∀ u : World, Calls Tryz.prog 163 #[.int .u64 (p : Nat), .int .i64 3, .int .i64 32] u fun e w' => e = .returned (.int .u64 (r : Nat)) ∧ Below u.heap.size u w' := fun u => by
        rw [hr]; exact rootW p 3 32 (by omega) (.inr rfl) (.inl rfl) u
      have HC := Lib.hid hc
      have HNX := Lib.hid hnx
      have q0 := HF.out.cell 0 (.int .i64 32) rfl
      have q1 := HF.out.cell 15 (.slice vp i vc) rfl
      have q2 : wr.cell? ⟨gP, i, none⟩ = some (.int .u64 (Sha.primes80.getD i 0 : Nat)) := HF.out.p i (by omega)
      have g1 : n0 + 1 < wr.heap.size := by have := HF.out.s; have := HF.out.hb; omega
      have g2 : gP < wr.heap.size := by have := HF.out.s; have := HF.out.hp; omega
      clear hc hnx hr
      rw [← hp] at q2
      clear hp
      have HOD : Hid (Owns64 wr.drew base (.slice vp i vc) ((Sha.primes80.take i).map (fun p => Sha.root p 3 32))) := World.ownsRow.drew HO.out
      have MK : Hid (∀ (w3 w4 : World), Below wr.drew.heap.size wr.drew w3 → (w3.alloc (.cells #[.int .u64 r] 199)).grownBy w4 (Value.slice vp i vc).ownBlock → OfS n0 base gP w w4 (rk32 (.slice vp i vc) nilV)) := fun w3 w4 h3 h4 =>
        ((HF.out.drew.below h3).alloc _).grown h4 (fun k hk => (HO.out.block hk).1)
      have HOS := Lib.hid HF.out.s
      have HLEN : Hid (((Sha.primes80.take i).map (fun p => Sha.root p 3 32)).length = i) := by
        unfold Hid; rw [List.length_map, List.length_take, Nat.min_def, if_pos (by show i ≤ 80; omega)]
      have q3 := HF.out.free 15
      have ne1 : (Value.slice vp i vc).ownBlock ≠ some (n0 + 1) := fun e => by have := (HO.out.block e).1; have := HF.out.hb; omega
      have ne2 : (Value.slice vp i vc).ownBlock ≠ some gP := fun e => by have := (HO.out.block e).1; have := HF.out.hp; omega
      obtain ⟨i0, hi0, hz0, hz1, hz2⟩ := info_parts info58
      have hb1 : (0 : Int) ≤ (i : Int) := by omega
      have hb2 : (i : Int) < 80 := by omega
      go_wp2_with fail
      go_region_law (first
          | (refine hstep_calls (by rfl) 163 _ _ (by rfl) #[.int .u64 (p : Nat), .int .i64 3, .int .i64 32] (by simp [Act.eval]) (enters_of Tryz.func163 (by kernel_rfl) rfl) (.int .u64 (r : Nat)) _ (HC.out _) ?_; intro w3 hb3; have k1 := (HF.out.drew.below hb3).cell 15 (.slice vp i vc) rfl; have k2 := ((HF.out.drew.below hb3).alloc (.cells #[.int .u64 r] 199)).cell 15 (.slice vp i vc) rfl; have k3 := (HF.out.drew.below hb3).cell 0 (.int .i64 32) rfl)
          | (refine step_append_lies _ (by rfl) _ _ _ (by rfl) base 199 i0 _ 1 8 Tryz.underlying228 hi0 hz0 hz1 hz2 rfl (by omega) (.slice vp i vc) i (nums .u64 ((Sha.primes80.take i).map (fun p => Sha.root p 3 32))) (by rfl) (by have h := (HOD.out.below hb3).alloc (.cells #[.int .u64 r] 199); unfold Owns64 at h; rw [HLEN.out] at h; exact h) ⟨w3.heap.size, 0, none⟩ 1 1 [.int .u64 r] (by rfl) (by rfl) (World.news_of_block (cs := #[.int .u64 r]) (t := 199) (fr := (0, 0)) (heap_alloc_new w3 _)) (by simp [Value.oneCell']) (by omega) (by unfold maxLen; omega) (by omega) (by have := HOS.out; have := hb3.size; simp at this; simp; omega) (w3.heap.size + 1) (by simp) ?_; intro gg cap w4 hown4 hgrow4 hat4 hlt4; have hof4 := Lib.hid (MK.out _ _ hb3 hgrow4); have k4 := hof4.out.cell 15 _ rfl; have k5 := hof4.out.free 15))
      all_goals go_wp2_with fail
      all_goals exact ⟨⟨i + 1, _, by omega, rfl, hof4.out.set HNE.out 15 _, of_step 15 _ hof4.out hown4 HLEN.out HNX.out⟩, by simp [intOf]; omega⟩
    · have hL : (Sha.primes80.take i).map (fun p => Sha.root p 3 32) = Sha.keys32 := by
        rw [show i = 64 by omega, ← Sha.keys_root32]
      rw [hL] at HO
      obtain ⟨gK, cK, hv, _, _, hcK, _⟩ := HO.out.form (by decide)
      have hv1 : vp = some ⟨gK, 0, none⟩ := by injection hv
      subst hv1
      have HOK := Lib.hid HO.out
      have HOF2 := Lib.hid HF.out.rebase
      have hgK := (HO.out.block (k := gK) rfl)
      have hgb : base ≤ wr.heap.size := HF.out.s
      have hgK0 : n0 + 2 ≤ gK := by have := HF.out.hb; omega
      have hneK : gK ≠ n0 + 1 := by omega
      obtain ⟨base2, hbase2⟩ : ∃ b, b = wr.heap.size := ⟨_, rfl⟩
      rw [← hbase2] at HOF2 hgK
      have hgK2 := hgK.2
      have HCK : Hid (Cells64 wr gK 64 (fun j => Sha.keys32.getD j 0)) := hcK
      clear hL hv hcK hbase2 hgK hgb HO HF HOF
      obtain ⟨wo, rfl⟩ : ∃ wo : World, wo = wr := ⟨_, rfl⟩
      go_wp2_with fail
      go_loopw [8] (fun vj wr => ∃ (j : Nat) (vF : Value), j ≤ 8 ∧ vj = .int .i64 (j : Nat) ∧ OfS n0 base2 gP w wr (rk32 (.slice (some ⟨gK, 0, none⟩) i vc) vF) ∧ Cells64 wr gK 64 (fun j => Sha.keys32.getD j 0) ∧ Owns64 wr base2 vF ((Sha.primes80.take j).map (fun p => Sha.root p 2 32))) (fun vj _ => (8 - intOf vj).toNat)
      case atStart => exact ⟨0, nilV, by omega, rfl, HOF2.out, HCK.out, World.ownsRow_nil _ _ _ _⟩
      case round =>
        obtain ⟨j, vF, hj, rfl, hof, hck, ho⟩ := hrel
        obtain ⟨fp, fc, rfl⟩ := ho.shape
        rw [List.length_map, List.length_take, show min j Sha.primes80.length = j from by rw [Nat.min_def, if_pos (by show j ≤ 80; omega)]] at hof ho
        have HF := Lib.hid hof
        have HO := Lib.hid ho
        have HC3 := Lib.hid hck
        clear ho hof hck
        by_cases hlt : j < 8
        · have hp16 : Sha.primes80.getD j 0 < 512 := by
            have := Sha.primes80_pos (Sha.primes80.getD j 0) (by
              rw [List.getD_eq_getElem?_getD, List.getElem?_eq_getElem (show j < Sha.primes80.length by show j < 80; omega)]
              exact List.getElem_mem _)
            exact this.2
          have hnx : (Sha.primes80.take (j + 1)).map (fun p => Sha.root p 2 32) = (Sha.primes80.take j).map (fun p => Sha.root p 2 32) ++ [Sha.root (Sha.primes80.getD j 0) 2 32] := by
            rw [take_succ_getD _ j 0 (show j < Sha.primes80.length by show j < 80; omega), List.map_append]; rfl
          have q2 : wr.cell? ⟨gP, j, none⟩ = some (.int .u64 (Sha.primes80.getD j 0 : Nat)) := HF.out.p j (by omega)
          obtain ⟨p, hp⟩ : ∃ p, p = Sha.primes80.getD j 0 := ⟨_, rfl⟩
          rw [← hp] at hp16 hnx q2
          obtain ⟨r, hr⟩ : ∃ r, r = Sha.root p 2 32 := ⟨_, rfl⟩
          rw [← hr] at hnx
          have hc : ∀ u : World, Calls Tryz.prog 163 #[.int .u64 (p : Nat), .int .i64 2, .int .i64 32] u fun e w' => e = .returned (.int .u64 (r : Nat)) ∧ Below u.heap.size u w' := fun u => by
            rw [hr]; exact rootW p 2 32 (by omega) (.inl rfl) (.inl rfl) u
          have HC := Lib.hid hc
          have HNX := Lib.hid hnx
          have q0 := HF.out.cell 0 (.int .i64 32) rfl
          have q1 := HF.out.cell 16 (.slice fp j fc) rfl
          clear hc hnx hr hp
          have HOD : Hid (Owns64 wr.drew base2 (.slice fp j fc) ((Sha.primes80.take j).map (fun p => Sha.root p 2 32))) := World.ownsRow.drew HO.out
          have MK : Hid (∀ (w3 w4 : World), Below wr.drew.heap.size wr.drew w3 → (w3.alloc (.cells #[.int .u64 r] 199)).grownBy w4 (Value.slice fp j fc).ownBlock → OfS n0 base2 gP w w4 (rk32 (.slice (some ⟨gK, 0, none⟩) i vc) (.slice fp j fc)) ∧ Cells64 w4 gK 64 (fun j => Sha.keys32.getD j 0)) := fun w3 w4 h3 h4 =>
            ⟨((HF.out.drew.below h3).alloc _).grown h4 (fun k hk => (HO.out.block hk).1),
              (((show Cells64 wr.drew gK 64 (fun j => Sha.keys32.getD j 0) from HC3.out).below h3).below ((Below.refl _ _).alloc (Nat.le_refl _) _)).grown h4 (fun e => by have := (HO.out.block e).1; omega)⟩
          have HOS := Lib.hid HF.out.s
          have HLEN : Hid (((Sha.primes80.take j).map (fun p => Sha.root p 2 32)).length = j) := by
            unfold Hid; rw [List.length_map, List.length_take, Nat.min_def, if_pos (by show j ≤ 80; omega)]
          obtain ⟨i0, hi0, hz0, hz1, hz2⟩ := info_parts info58
          have hb1 : (0 : Int) ≤ (j : Int) := by omega
          have hb2 : (j : Int) < 80 := by omega
          have hb3w : IntKind.i64.wrap (j : Int) = (j : Int) := IntWalk.i64_in _ (by omega)
          go_wp2_with fail
          go_region_law (first
            | (refine hstep_calls (by rfl) 163 _ _ (by rfl) #[.int .u64 (p : Nat), .int .i64 2, .int .i64 32] (by simp [Act.eval]) (enters_of Tryz.func163 (by kernel_rfl) rfl) (.int .u64 (r : Nat)) _ (HC.out _) ?_; intro w3 hb3; have k1 := (HF.out.drew.below hb3).cell 16 (.slice fp j fc) rfl; have k2 := ((HF.out.drew.below hb3).alloc (.cells #[.int .u64 r] 199)).cell 16 (.slice fp j fc) rfl; have k3 := (HF.out.drew.below hb3).cell 0 (.int .i64 32) rfl)
            | (refine step_append_lies _ (by rfl) _ _ _ (by rfl) base2 199 i0 _ 1 8 Tryz.underlying228 hi0 hz0 hz1 hz2 rfl (by omega) (.slice fp j fc) j (nums .u64 ((Sha.primes80.take j).map (fun p => Sha.root p 2 32))) (by rfl) (by have h := (HOD.out.below hb3).alloc (.cells #[.int .u64 r] 199); unfold Owns64 at h; rw [HLEN.out] at h; exact h) ⟨w3.heap.size, 0, none⟩ 1 1 [.int .u64 r] (by rfl) (by rfl) (World.news_of_block (cs := #[.int .u64 r]) (t := 199) (fr := (0, 0)) (heap_alloc_new w3 _)) (by simp [Value.oneCell']) (by omega) (by unfold maxLen; omega) (by omega) (by have := HOS.out; have := hb3.size; simp at this; simp; omega) (w3.heap.size + 1) (by simp) ?_; intro gg cap w4 hown4 hgrow4 hat4 hlt4; have hof4 := Lib.hid (MK.out _ _ hb3 hgrow4); have k4 := hof4.out.1.cell 16 _ rfl; have k5 := hof4.out.1.free 16))
          all_goals go_wp2_with fail
          all_goals exact ⟨⟨j + 1, _, by omega, rfl, hof4.out.1.set HNE.out 16 _, hof4.out.2.set _ _ _ hneK, of_step 16 _ hof4.out.1 hown4 HLEN.out HNX.out⟩, by simp [intOf]; omega⟩
        · have hL : (Sha.primes80.take j).map (fun p => Sha.root p 2 32) = Sha.k32.init := by
            rw [show j = 8 by omega, ← Sha.init_root32]
          rw [hL] at HO
          obtain ⟨gF, cF, hv, _, _, hcF, _⟩ := HO.out.form (by decide)
          have hv1 : fp = some ⟨gF, 0, none⟩ := by injection hv
          subst hv1
          have hi64 : i = 64 := by omega
          have hj8 : j = 8 := by omega
          subst hi64
          subst hj8
          have HCF : Hid (Cells64 wr gF 8 (fun j => Sha.k32.init.getD j 0)) := hcF
          clear hL hv hcF
          have hinf : (Tryz.prog.info? 230).map (·.size) = some 17 := by kernel_rfl
          go_wp2_with (first | (refine wpList_load_row rfl 230 _ rfl (n0 + 1) rfl 230 _ (0, 0) _ HF.out.k Tryz.underlying230 rfl hinf ?_) | (refine wpList_store_blk rfl 230 _ _ rfl n0 0 (rk32 (.slice (some ⟨gK, 0, none⟩) 64 vc) (.slice (some ⟨gF, 0, none⟩) 8 fc)) rfl rfl rkz 230 HF.out.z (show 0 + 17 ≤ 17 by decide) hinf (one_rk32 _ _ rfl rfl) ?_; intro w5 hh5 hg5 hs5))
          have hz5 : w5.heap[n0]? = some (.cells (rk32 (.slice (some ⟨gK, 0, none⟩) 64 vc) (.slice (some ⟨gF, 0, none⟩) 8 fc)) 230 (0, 0)) := by rw [hh5]; rfl
          have hld := run_loadVar_row (P := Tryz.prog) w5 n0 230 230 _ (0, 0) _ hz5 Tryz.underlying230 rfl (by kernel_rfl)
          refine bodyPost_ret (v := .tuple #[.agg (rk32 (.slice (some ⟨gK, 0, none⟩) 64 vc) (.slice (some ⟨gF, 0, none⟩) 8 fc)), .bool true]) (by simp [results, asAddr, hld]) rfl ?_
          have hgF := (HO.out.block (k := gF) rfl).1
          have hbb := HF.out.hb
          have h := HN0.out
          subst h
          exact ⟨gK, vc, gF, fc, rfl, HC3.out.grown hg5 (fun e => by injection e with e; omega), HCF.out.grown hg5 (fun e => by injection e with e; omega), HF.out.b.grown hg5 (by have := HF.out.s; omega) (fun k e => by injection e with e; omega)⟩
end Go.Proofs.YtilpbjcbffbjeaaGreatDoor
