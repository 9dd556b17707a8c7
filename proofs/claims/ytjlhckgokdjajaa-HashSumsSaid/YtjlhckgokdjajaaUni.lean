/- The contracts, of both kinds as one. -/
import Derived.Test.YtjlhckgokdjajaaMac
namespace Go.Proofs.Ytjlhckgokdjajaa
open Go.RowKit
/-- The kind of number k. -/
def kd (k : Nat) : Sha.Kind := if k = 0 then Sha.k32 else Sha.k64
def IsK (k : Nat) (w : World) (b : Nat) (t : List Nat) : Prop := if k = 0 then IsH32 w b t else IsH64 w b t
theorem kd_lt2 {k : Nat} (h : k < 2) : k = 0 ∨ k = 1 := by omega
theorem IsK.lt {k : Nat} {w : World} {b : Nat} {t : List Nat} (h : IsK k w b t) : b < w.heap.size := by
  unfold IsK at h; split at h
  · exact IsH32.lt h
  · exact IsH64.lt h
theorem IsK.same {k : Nat} {w w' : World} {b : Nat} {t : List Nat} (h : IsK k w b t) (e : w'.heap[b]? = w.heap[b]?) : IsK k w' b t := by
  unfold IsK at *; split at h
  · rw [if_pos (by assumption)]; exact IsH32.same h e
  · rw [if_neg (by assumption)]; exact IsH64.same h e
theorem newK (k : Nat) (hk : k < 2) (w : World) : Calls Try.prog 16 #[.int .i64 (k : Nat)] w fun e w' => ∃ b, e = .returned (.tuple #[.pointer (some ⟨b, 0, none⟩), .int .i64 0]) ∧ IsK k w' b [] ∧ Below w.heap.size w w' ∧ w.heap.size ≤ b := by
  rcases kd_lt2 hk with rfl | rfl
  · exact (new0 w).mono fun e w' ⟨b, h1, h2, h3, h4⟩ => ⟨b, h1, isH32_new h2, h3, h4⟩
  · exact (new1 w).mono fun e w' ⟨b, h1, h2, h3, h4⟩ => ⟨b, h1, isH64_new h2, h3, h4⟩
theorem writeK {k : Nat} (B : Nat) (t : List Nat) (s : ByteArray) (w : World) (hH : IsK k w B t) (hsz : t.length + s.size ≤ 4611686018427387904) :
    Calls Try.prog 17 #[.pointer (some ⟨B, 0, none⟩), .string s] w fun e w' => e = .returned (.tuple #[]) ∧ IsK k w' B (t ++ bs s) ∧ w.grownBy w' (some B) := by
  unfold IsK at *
  by_cases h : k = 0
  · simp only [h, if_true] at hH ⊢; exact write32 B t s w hH hsz
  · simp only [h, if_false] at hH ⊢; exact write64 B t s w hH hsz
theorem hsumK {k : Nat} (B : Nat) (t : List Nat) (w : World) (hH : IsK k w B t) (hsz : t.length ≤ 576460752303423488) :
    Calls Try.prog 18 #[.pointer (some ⟨B, 0, none⟩)] w fun e w' => e = .returned (.string (strOf (Sha.sum (kd k) t))) ∧ Below w.heap.size w w' := by
  unfold IsK at *
  unfold kd
  by_cases h : k = 0
  · simp only [h, if_true] at hH ⊢; exact sum32 B t w hH hsz
  · simp only [h, if_false] at hH ⊢; exact sum64 B t w hH hsz
theorem sizeK {k : Nat} (B : Nat) (t : List Nat) (w : World) (hH : IsK k w B t) :
    Calls Try.prog 19 #[.pointer (some ⟨B, 0, none⟩)] w fun e w' => e = .returned (.int .i64 (t.length : Nat)) ∧ w = w' := by
  unfold IsK at *
  by_cases h : k = 0
  · simp only [h, if_true] at hH; obtain ⟨_, _, _, h, _⟩ := hH; exact sizeW h
  · simp only [h, if_false] at hH; obtain ⟨_, _, _, h, _⟩ := hH; exact sizeW h
theorem cloneK {k : Nat} (B : Nat) (t : List Nat) (w : World) (hH : IsK k w B t) :
    Calls Try.prog 23 #[.pointer (some ⟨B, 0, none⟩)] w fun e w' => e = .returned (.pointer (some ⟨w.heap.size, 0, none⟩)) ∧ IsK k w' w.heap.size t ∧ Below w.heap.size w w' := by
  unfold IsK at *
  by_cases h : k = 0
  · simp only [h, if_true] at hH ⊢; obtain ⟨_, _, _, h, hs⟩ := hH
    exact (cloneW h).mono fun e w' ⟨h1, h2, h3⟩ => ⟨h1, ⟨_, _, _, h2, hs⟩, h3⟩
  · simp only [h, if_false] at hH ⊢; obtain ⟨_, _, _, h, hs⟩ := hH
    exact (cloneW h).mono fun e w' ⟨h1, h2, h3⟩ => ⟨h1, ⟨_, _, _, h2, hs⟩, h3⟩
theorem sumK (k : Nat) (hk : k < 2) (s : ByteArray) (w : World) (hs : s.size ≤ 576460752303423488) :
    Calls Try.prog 11 #[.int .i64 (k : Nat), .string s] w fun e w' => e = .returned (.tuple #[.string (strOf (Sha.sum (kd k) (bs s))), .int .i64 0]) ∧ Below w.heap.size w w' := by
  rcases kd_lt2 hk with rfl | rfl
  · exact sumK0 s w hs
  · exact sumK1 s w hs
theorem macK (k : Nat) (hk : k < 2) (key s : ByteArray) (w : World) (hkk : key.size ≤ 576460752303423488) (hs : s.size ≤ 576460752303423000) :
    Calls Try.prog 14 #[.int .i64 (k : Nat), .string key, .string s] w fun e w' => e = .returned (.tuple #[.string (strOf (Sha.mac (kd k) (bs key) (bs s))), .int .i64 0]) ∧ Below w.heap.size w w' := by
  rcases kd_lt2 hk with rfl | rfl
  · exact mac0 key s w hkk hs
  · exact mac1 key s w hkk hs
end Go.Proofs.Ytjlhckgokdjajaa
