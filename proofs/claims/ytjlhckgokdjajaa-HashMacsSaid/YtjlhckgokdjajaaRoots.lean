/- The roots of the primes, in plain numbers: the first bits behind the point, found bit by bit; they are the two sums' constants. No program in sight. -/
import Derived.Test.YtjlhckgokdjajaaSpec
namespace Go.Proofs.Ytjlhckgokdjajaa.Sha
/-- One bit more, if the power stays below. -/
def rootStep (p n bits X k : Nat) : Nat := if p * 2 ^ (bits * n) < (X + 2 ^ k) ^ n then X else X + 2 ^ k
/-- The bits from k - 1 down. -/
def rootFrom (p n bits : Nat) : Nat → Nat → Nat
  | 0, X => X
  | k + 1, X => rootFrom p n bits k (rootStep p n bits X k)
def root (p n bits : Nat) : Nat := rootFrom p n bits (bits + 9) 0 % 2 ^ bits
/-- The primes below p, by trial. -/
def prB : Nat → List Nat
  | 0 => []
  | p + 1 => if 2 ≤ p ∧ (prB p).all (fun q => p % q != 0) = true then prB p ++ [p] else prB p
def prL (l : List Nat) : Nat → Nat → List Nat
  | 0, _ => l
  | f + 1, p => prL (if l.all (fun q => p % q != 0) then l ++ [p] else l) f (p + 1)
def primes80 : List Nat := [2, 3, 5, 7, 11, 13, 17, 19, 23, 29, 31, 37, 41, 43, 47, 53, 59, 61, 67, 71, 73, 79, 83, 89, 97, 101, 103, 107, 109, 113, 127, 131, 137, 139, 149, 151, 157, 163, 167, 173, 179, 181, 191, 193, 197, 199, 211, 223, 227, 229, 233, 239, 241, 251, 257, 263, 269, 271, 277, 281, 283, 293, 307, 311, 313, 317, 331, 337, 347, 349, 353, 359, 367, 373, 379, 383, 389, 397, 401, 409]
theorem prL_all : prL [] 408 2 = primes80 := by decide +kernel
theorem keys_root32 : keys32 = (primes80.take 64).map (fun p => root p 3 32) := by decide +kernel
theorem keys_root64 : keys64 = primes80.map (fun p => root p 3 64) := by decide +kernel
theorem init_root32 : k32.init = (primes80.take 8).map (fun p => root p 2 32) := by decide +kernel
theorem init_root64 : k64.init = ((primes80.drop 8).take 8).map (fun p => root p 2 64) := by decide +kernel
/-- The primes below p. -/
def primesBelow (p : Nat) : List Nat := primes80.filter (fun q => decide (q < p))
def isPrimeBy (l : List Nat) (p : Nat) : Bool := l.all (fun q => p % q != 0)
theorem primesBelow_all : ∀ p ∈ List.range 410, 2 ≤ p → (primesBelow p).length < 80 ∧ primesBelow (p + 1) = if isPrimeBy (primesBelow p) p then primesBelow p ++ [p] else primesBelow p := by decide +kernel
theorem primesBelow_end : primesBelow 410 = primes80 := by decide +kernel
theorem primesBelow_two : primesBelow 2 = [] := by decide +kernel
theorem primes80_pos : ∀ q ∈ primes80, 0 < q ∧ q < 512 := by decide +kernel
theorem primesBelow_step {p : Nat} (h2 : 2 ≤ p) (h : p < 410) : (primesBelow p).length < 80 ∧ primesBelow (p + 1) = if isPrimeBy (primesBelow p) p then primesBelow p ++ [p] else primesBelow p :=
  primesBelow_all p (List.mem_range.2 h) h2
theorem primesBelow_pos {p q : Nat} (h : q ∈ primesBelow p) : 0 < q ∧ q < 512 := primes80_pos q (List.mem_filter.1 h).1
end Go.Proofs.Ytjlhckgokdjajaa.Sha
