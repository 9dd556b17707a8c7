/- Bits, plain: what the document's read and Base64 reckon. -/
import Derived.Test.YthdoeaiehajofaaDoorTCode
namespace Go.Proofs.YthdoeaiehajofaaDoor
set_option linter.unusedVariables false
set_option maxRecDepth 20000
namespace C
/-- The bits of a digit, from the highest on. -/
def bitsN (wide n : Nat) : List Nat := (List.range wide).map fun t => n / 2 ^ (wide - 1 - t) % 2
def bitsOf (wide : Nat) (ds : List Nat) : List Nat := ds.flatMap (bitsN wide)
theorem bitsN_length (wide n : Nat) : (bitsN wide n).length = wide := by simp [bitsN]
theorem bitsOf_cons (wide d : Nat) (ds : List Nat) : bitsOf wide (d :: ds) = bitsN wide d ++ bitsOf wide ds := by simp [bitsOf]
theorem bitsOf_append (wide : Nat) (a b : List Nat) : bitsOf wide (a ++ b) = bitsOf wide a ++ bitsOf wide b := by simp [bitsOf]
theorem bitsOf_length (wide : Nat) (ds : List Nat) : (bitsOf wide ds).length = wide * ds.length := by
  induction ds with
  | nil => simp [bitsOf]
  | cons d ds ih => rw [bitsOf_cons, List.length_append, bitsN_length, ih, List.length_cons, Nat.mul_add, Nat.mul_one]; omega
theorem bitsOf_le (wide : Nat) (ds : List Nat) : ∀ b ∈ bitsOf wide ds, b ≤ 1 := by
  intro b hb
  obtain ⟨d, _, h⟩ := List.mem_flatMap.1 hb
  obtain ⟨t, _, rfl⟩ := List.mem_map.1 h
  omega
theorem bitsN_take (wide n t : Nat) (h : t < wide) : (bitsN wide n).take (t + 1) = (bitsN wide n).take t ++ [n / 2 ^ (wide - 1 - t) % 2] := by
  rw [List.take_succ_eq_append_getElem (by rw [bitsN_length]; exact h)]
  simp [bitsN]
def val8 (B : List Nat) (q : Nat) : Nat := (List.range 8).foldl (fun n j => 2 * n + B.getD (8 * q + j) 0) 0
def rd : List Nat → List Nat
  | a :: b :: c :: d :: e :: f :: g :: h :: t => (2 * (2 * (2 * (2 * (2 * (2 * (2 * a + b) + c) + d) + e) + f) + g) + h) :: rd t
  | _ => []
theorem val8_eq (B : List Nat) (q : Nat) : val8 B q = 2 * (2 * (2 * (2 * (2 * (2 * (2 * B.getD (8 * q) 0 + B.getD (8 * q + 1) 0) + B.getD (8 * q + 2) 0) + B.getD (8 * q + 3) 0) + B.getD (8 * q + 4) 0) + B.getD (8 * q + 5) 0) + B.getD (8 * q + 6) 0) + B.getD (8 * q + 7) 0 := by
  simp [val8, List.range_succ]
theorem getD_le {B : List Nat} (h : ∀ b ∈ B, b ≤ 1) (i : Nat) : B.getD i 0 ≤ 1 := by
  rw [List.getD_eq_getElem?_getD]
  cases e : B[i]? with
  | none => simp
  | some c => exact h c (List.mem_of_getElem? e)
theorem val8_lt {B : List Nat} (h : ∀ b ∈ B, b ≤ 1) (q : Nat) : val8 B q < 256 := by
  rw [val8_eq]
  have := getD_le h
  have h0 := this (8 * q); have h1 := this (8 * q + 1); have h2 := this (8 * q + 2); have h3 := this (8 * q + 3)
  have h4 := this (8 * q + 4); have h5 := this (8 * q + 5); have h6 := this (8 * q + 6); have h7 := this (8 * q + 7)
  omega
theorem rd_eq : ∀ B : List Nat, rd B = (List.range (B.length / 8)).map (val8 B)
  | a :: b :: c :: d :: e :: f :: g :: h :: t => by
    have ih := rd_eq t
    have hl : (a :: b :: c :: d :: e :: f :: g :: h :: t).length / 8 = t.length / 8 + 1 := by simp only [List.length_cons]; omega
    rw [hl, List.range_succ_eq_map, List.map_cons, List.map_map, rd, ih]
    congr 1
    rw [val8_eq]; simp
  | [] => rfl
  | [_] => by simp [rd]
  | [_, _] => by simp [rd]
  | [_, _, _] => by simp [rd]
  | [_, _, _, _] => by simp [rd]
  | [_, _, _, _, _] => by simp [rd]
  | [_, _, _, _, _, _] => by simp [rd]
  | [_, _, _, _, _, _, _] => by simp [rd]
theorem bits4 (n : Nat) : bitsN 4 n = [n / 8 % 2, n / 4 % 2, n / 2 % 2, n % 2] := by simp [bitsN, List.range_succ]
theorem bits6 (n : Nat) : bitsN 6 n = [n / 32 % 2, n / 16 % 2, n / 8 % 2, n / 4 % 2, n / 2 % 2, n % 2] := by simp [bitsN, List.range_succ]
theorem rd_nib : ∀ r : List Nat, (∀ c ∈ r, c < 256) → rd (bitsOf 4 (nib r)) = r
  | [], _ => rfl
  | a :: r, h => by
    have ha := h a (by simp)
    rw [nib_cons, bitsOf_cons, bitsOf_cons, bits4, bits4]
    simp only [List.cons_append, List.nil_append]
    rw [rd, rd_nib r (fun c hc => h c (by simp [hc]))]
    congr 1
    omega
theorem m1 (x y : Nat) (hx : x < 64) (hy : y < 64) : 2 * (2 * (2 * (2 * (2 * (2 * (2 * (x / 32 % 2) + x / 16 % 2) + x / 8 % 2) + x / 4 % 2) + x / 2 % 2) + x % 2) + y / 32 % 2) + y / 16 % 2 = x * 4 + y / 16 := by omega
theorem m2 (x y : Nat) (hx : x < 64) (hy : y < 64) : 2 * (2 * (2 * (2 * (2 * (2 * (2 * (x / 8 % 2) + x / 4 % 2) + x / 2 % 2) + x % 2) + y / 32 % 2) + y / 16 % 2) + y / 8 % 2) + y / 4 % 2 = x % 16 * 16 + y / 4 := by omega
theorem m3 (x y : Nat) (hx : x < 64) (hy : y < 64) : 2 * (2 * (2 * (2 * (2 * (2 * (2 * (x / 2 % 2) + x % 2) + y / 32 % 2) + y / 16 % 2) + y / 8 % 2) + y / 4 % 2) + y / 2 % 2) + y % 2 = x % 4 * 64 + y := by omega
theorem rd8 (a b c d e f g h : Nat) (t : List Nat) : rd (a :: b :: c :: d :: e :: f :: g :: h :: t) = (2 * (2 * (2 * (2 * (2 * (2 * (2 * a + b) + c) + d) + e) + f) + g) + h) :: rd t := by rw [rd]
theorem rd2 (a b : Nat) : rd [a, b] = [] := by simp [rd]
theorem rd4 (a b c d : Nat) : rd [a, b, c, d] = [] := by simp [rd]
theorem rd_sext : ∀ r : List Nat, (∀ c ∈ r, c < 256) → rd (bitsOf 6 (sext r)) = r
  | a :: b :: c :: t, h => by
    have ha := h a (by simp)
    have hb := h b (by simp)
    have hc := h c (by simp)
    have ih := rd_sext t (fun x m => h x (by simp [m]))
    obtain ⟨x, hx⟩ : ∃ x, x = a / 4 := ⟨_, rfl⟩
    obtain ⟨y, hy⟩ : ∃ x, x = a % 4 * 16 + b / 16 := ⟨_, rfl⟩
    obtain ⟨z, hz⟩ : ∃ x, x = b % 16 * 4 + c / 64 := ⟨_, rfl⟩
    obtain ⟨u, hu⟩ : ∃ x, x = c % 64 := ⟨_, rfl⟩
    rw [sext, ← hx, ← hy, ← hz, ← hu, bitsOf_cons, bitsOf_cons, bitsOf_cons, bitsOf_cons, bits6, bits6, bits6, bits6]
    simp only [List.cons_append, List.nil_append]
    rw [rd8, rd8, rd8, ih, m1 x y (by omega) (by omega), m2 y z (by omega) (by omega), m3 z u (by omega) (by omega)]
    rw [show x * 4 + y / 16 = a by omega, show y % 16 * 16 + z / 4 = b by omega, show z % 4 * 64 + u = c by omega]
  | [a, b], h => by
    have ha := h a (by simp)
    have hb := h b (by simp)
    obtain ⟨x, hx⟩ : ∃ x, x = a / 4 := ⟨_, rfl⟩
    obtain ⟨y, hy⟩ : ∃ x, x = a % 4 * 16 + b / 16 := ⟨_, rfl⟩
    obtain ⟨z, hz⟩ : ∃ x, x = b % 16 * 4 := ⟨_, rfl⟩
    rw [sext, ← hx, ← hy, ← hz, bitsOf_cons, bitsOf_cons, bitsOf_cons, bits6, bits6, bits6]
    simp only [List.cons_append, List.nil_append, bitsOf, List.flatMap_nil]
    rw [rd8, rd8, rd2, m1 x y (by omega) (by omega), m2 y z (by omega) (by omega)]
    rw [show x * 4 + y / 16 = a by omega, show y % 16 * 16 + z / 4 = b by omega]
  | [a], h => by
    have ha := h a (by simp)
    obtain ⟨x, hx⟩ : ∃ x, x = a / 4 := ⟨_, rfl⟩
    obtain ⟨y, hy⟩ : ∃ x, x = a % 4 * 16 := ⟨_, rfl⟩
    rw [sext, ← hx, ← hy, bitsOf_cons, bitsOf_cons, bits6, bits6]
    simp only [List.cons_append, List.nil_append, bitsOf, List.flatMap_nil]
    rw [rd8, rd4, m1 x y (by omega) (by omega)]
    rw [show x * 4 + y / 16 = a by omega]
  | [], _ => rfl
/-- The document's bit. -/
def bit (l : List Nat) (k : Nat) : Nat := if 8 * l.length ≤ k then 0 else l.getD (k / 8) 0 / 2 ^ (7 - k % 8) % 2
def six (l : List Nat) (q : Nat) : Nat := (List.range 6).foldl (fun n j => 2 * n + bit l (6 * q + j)) 0
theorem six_eq (l : List Nat) (q : Nat) : six l q = 2 * (2 * (2 * (2 * (2 * bit l (6 * q) + bit l (6 * q + 1)) + bit l (6 * q + 2)) + bit l (6 * q + 3)) + bit l (6 * q + 4)) + bit l (6 * q + 5) := by
  simp [six, List.range_succ]
theorem bit_le (l : List Nat) (k : Nat) : bit l k ≤ 1 := by unfold bit; split <;> omega
theorem six_lt (l : List Nat) (q : Nat) : six l q < 64 := by
  rw [six_eq]
  have h0 := bit_le l (6 * q); have h1 := bit_le l (6 * q + 1); have h2 := bit_le l (6 * q + 2)
  have h3 := bit_le l (6 * q + 3); have h4 := bit_le l (6 * q + 4); have h5 := bit_le l (6 * q + 5)
  omega
theorem bit_shift (a b c : Nat) (t : List Nat) (k : Nat) : bit (a :: b :: c :: t) (k + 24) = bit t k := by
  unfold bit
  simp only [List.length_cons]
  by_cases h : 8 * t.length ≤ k
  · rw [if_pos h, if_pos (by omega)]
  · rw [if_neg h, if_neg (by omega), show (k + 24) / 8 = k / 8 + 1 + 1 + 1 by omega, show (k + 24) % 8 = k % 8 by omega]
    simp
theorem six_shift (a b c : Nat) (t : List Nat) (q : Nat) : six (a :: b :: c :: t) (q + 4) = six t q := by
  rw [six_eq, six_eq]
  have e : ∀ j, bit (a :: b :: c :: t) (6 * (q + 4) + j) = bit t (6 * q + j) := fun j => by rw [show 6 * (q + 4) + j = 6 * q + j + 24 by omega, bit_shift]
  have e0 : bit (a :: b :: c :: t) (6 * (q + 4)) = bit t (6 * q) := by rw [show 6 * (q + 4) = 6 * q + 24 by omega, bit_shift]
  rw [e0, e, e, e, e, e]
theorem bit_eq (l : List Nat) (k : Nat) : bit l k = l.getD (k / 8) 0 / 2 ^ (7 - k % 8) % 2 := by
  unfold bit
  split
  · rw [List.getD_eq_getElem?_getD, List.getElem?_eq_none (by omega)]; simp
  · rfl
theorem bit_out' (l : List Nat) (k : Nat) (h : 8 * l.length ≤ k) : bit l k = 0 := by unfold bit; rw [if_pos h]
theorem s0 (a : Nat) (h : a < 256) : 2 * (2 * (2 * (2 * (2 * (a / 128 % 2) + a / 64 % 2) + a / 32 % 2) + a / 16 % 2) + a / 8 % 2) + a / 4 % 2 = a / 4 := by omega
theorem s1 (a b : Nat) (h : a < 256) (hb : b < 256) : 2 * (2 * (2 * (2 * (2 * (a / 2 % 2) + a % 2) + b / 128 % 2) + b / 64 % 2) + b / 32 % 2) + b / 16 % 2 = a % 4 * 16 + b / 16 := by omega
theorem s2 (a b : Nat) (h : a < 256) (hb : b < 256) : 2 * (2 * (2 * (2 * (2 * (a / 8 % 2) + a / 4 % 2) + a / 2 % 2) + a % 2) + b / 128 % 2) + b / 64 % 2 = a % 16 * 4 + b / 64 := by omega
theorem s3 (a : Nat) (h : a < 256) : 2 * (2 * (2 * (2 * (2 * (a / 32 % 2) + a / 16 % 2) + a / 8 % 2) + a / 4 % 2) + a / 2 % 2) + a % 2 = a % 64 := by omega
theorem six0 (a : Nat) (t : List Nat) (h : a < 256) : six (a :: t) 0 = a / 4 := by
  rw [six_eq]; simp only [bit_eq]; simp; exact s0 a h
theorem six1 (a b : Nat) (t : List Nat) (h : a < 256) (hb : b < 256) : six (a :: b :: t) 1 = a % 4 * 16 + b / 16 := by
  rw [six_eq]; simp only [bit_eq]; simp; exact s1 a b h hb
theorem six2 (a b c : Nat) (t : List Nat) (h : b < 256) (hc : c < 256) : six (a :: b :: c :: t) 2 = b % 16 * 4 + c / 64 := by
  rw [six_eq]; simp only [bit_eq]; simp; exact s2 b c h hc
theorem six3 (a b c : Nat) (t : List Nat) (hc : c < 256) : six (a :: b :: c :: t) 3 = c % 64 := by
  rw [six_eq]; simp only [bit_eq]; simp; exact s3 c hc
theorem six1' (a : Nat) (h : a < 256) : six [a] 1 = a % 4 * 16 := by
  rw [six_eq]; simp only [bit_eq]; simp; have := s1 a 0 h (by omega); simp at this; omega
theorem six2' (a b : Nat) (h : b < 256) : six [a, b] 2 = b % 16 * 4 := by
  rw [six_eq]; simp only [bit_eq]; simp; have := s2 b 0 h (by omega); simp at this; omega
theorem range4 (f : Nat → Nat) (n : Nat) : (List.range (n + 1 + 1 + 1 + 1)).map f = f 0 :: f 1 :: f 2 :: f 3 :: (List.range n).map (fun q => f (q + 1 + 1 + 1 + 1)) := by
  rw [List.range_succ_eq_map, List.range_succ_eq_map, List.range_succ_eq_map, List.range_succ_eq_map]
  simp [Function.comp_def]
theorem sext_six : ∀ r : List Nat, (∀ c ∈ r, c < 256) → sext r = (List.range ((4 * r.length + 2) / 3)).map (six r)
  | a :: b :: c :: t, h => by
    have ha := h a (by simp)
    have hb := h b (by simp)
    have hc := h c (by simp)
    have ih := sext_six t (fun x m => h x (by simp [m]))
    have hl : (4 * (a :: b :: c :: t).length + 2) / 3 = (4 * t.length + 2) / 3 + 1 + 1 + 1 + 1 := by simp only [List.length_cons]; omega
    have hs : ∀ q, six (a :: b :: c :: t) (q + 1 + 1 + 1 + 1) = six t q := fun q => six_shift a b c t q
    rw [hl, range4, List.map_congr_left (fun q _ => hs q), ← ih, six0 a _ ha, six1 a b _ ha hb, six2 a b c _ hb hc, six3 a b c _ hc, sext]
  | [a, b], h => by
    have ha := h a (by simp)
    have hb := h b (by simp)
    have e : (List.range ((4 * [a, b].length + 2) / 3)).map (six [a, b]) = [six [a, b] 0, six [a, b] 1, six [a, b] 2] := by
      rw [show (4 * [a, b].length + 2) / 3 = 3 by simp, show List.range 3 = [0, 1, 2] from rfl]; rfl
    rw [e, six0 a _ ha, six1 a b _ ha hb, six2' a b hb, sext]
  | [a], h => by
    have ha := h a (by simp)
    have e : (List.range ((4 * [a].length + 2) / 3)).map (six [a]) = [six [a] 0, six [a] 1] := by
      rw [show (4 * [a].length + 2) / 3 = 2 by simp, show List.range 2 = [0, 1] from rfl]; rfl
    rw [e, six0 a _ ha, six1' a ha, sext]
  | [], _ => by simp [sext]
end C
end Go.Proofs.YthdoeaiehajofaaDoor
