/- Two hash objects of the call's own, in two blocks: what a write of one, and what new blocks, leave of both. -/
import Derived.Test.YtjlhckgokdjajaaPlain
import Derived.Test.YtjlhckgokdjajaaStrs
namespace Go.Proofs.Ytjlhckgokdjajaa
open Go.RowKit
/-- Blocks b1 and b2, from n on, are hashes of kinds k1 and k2 that were written t1 and t2; below n the world is as w0. -/
structure Duo (n : Nat) (w0 w : World) (k1 b1 : Nat) (t1 : List Nat) (k2 b2 : Nat) (t2 : List Nat) : Prop where
  bel : Below n w0 w
  n1 : n ≤ b1
  n2 : n ≤ b2
  ne : b1 ≠ b2
  i1 : IsK k1 w b1 t1
  i2 : IsK k2 w b2 t2
section
variable {n : Nat} {w0 w w' : World} {k1 b1 k2 b2 : Nat} {t1 t2 t' : List Nat}
theorem Duo.below (h : Duo n w0 w k1 b1 t1 k2 b2 t2) (hb : Below w.heap.size w w') : Duo n w0 w' k1 b1 t1 k2 b2 t2 :=
  ⟨h.bel.trans (hb.mono (Nat.le_of_lt (Nat.lt_of_le_of_lt h.n1 h.i1.lt))), h.n1, h.n2, h.ne, h.i1.same (hb.block b1 h.i1.lt), h.i2.same (hb.block b2 h.i2.lt)⟩
theorem Duo.size (h : Duo n w0 w k1 b1 t1 k2 b2 t2) : n ≤ w.heap.size := Nat.le_of_lt (Nat.lt_of_le_of_lt h.n1 h.i1.lt)
theorem Duo.alloc (h : Duo n w0 w k1 b1 t1 k2 b2 t2) (o : Obj) : Duo n w0 (w.alloc o) k1 b1 t1 k2 b2 t2 := h.below ((Below.refl _ _).alloc (Nat.le_refl _) o)
theorem Duo.one (h : Duo n w0 w k1 b1 t1 k2 b2 t2) (hg : w.grownBy w' (some b1)) (hi : IsK k1 w' b1 t') : Duo n w0 w' k1 b1 t' k2 b2 t2 :=
  ⟨h.bel.grown hg h.size (fun k e => by injection e with e; rw [← e]; exact h.n1), h.n1, h.n2, h.ne, hi, h.i2.same (hg.block b2 h.i2.lt (fun e => h.ne (by injection e with e; exact e.symm)))⟩
theorem Duo.two (h : Duo n w0 w k1 b1 t1 k2 b2 t2) (hg : w.grownBy w' (some b2)) (hi : IsK k2 w' b2 t') : Duo n w0 w' k1 b1 t1 k2 b2 t' :=
  ⟨h.bel.grown hg h.size (fun k e => by injection e with e; rw [← e]; exact h.n2), h.n1, h.n2, h.ne, h.i1.same (hg.block b1 h.i1.lt (fun e => h.ne (by injection e))), hi⟩
/-- Something else is written: from n on, and neither of the two. -/
theorem Duo.else_ (h : Duo n w0 w k1 b1 t1 k2 b2 t2) {r : Option Nat} (hg : w.grownBy w' r) (hr : ∀ k, r = some k → n ≤ k ∧ k ≠ b1 ∧ k ≠ b2) : Duo n w0 w' k1 b1 t1 k2 b2 t2 :=
  ⟨h.bel.grown hg h.size (fun k e => (hr k e).1), h.n1, h.n2, h.ne, h.i1.same (hg.block b1 h.i1.lt (fun e => (hr b1 e.symm).2.1 rfl)), h.i2.same (hg.block b2 h.i2.lt (fun e => (hr b2 e.symm).2.2 rfl))⟩
end
/-- One hash object of the call's own. -/
structure Uno (n : Nat) (w0 w : World) (k b : Nat) (t : List Nat) : Prop where
  bel : Below n w0 w
  n1 : n ≤ b
  i1 : IsK k w b t
section
variable {n : Nat} {w0 w w' : World} {k b : Nat} {t t' : List Nat}
theorem Uno.size (h : Uno n w0 w k b t) : n ≤ w.heap.size := Nat.le_of_lt (Nat.lt_of_le_of_lt h.n1 h.i1.lt)
theorem Uno.below (h : Uno n w0 w k b t) (hb : Below w.heap.size w w') : Uno n w0 w' k b t := ⟨h.bel.trans (hb.mono h.size), h.n1, h.i1.same (hb.block b h.i1.lt)⟩
theorem Uno.alloc (h : Uno n w0 w k b t) (o : Obj) : Uno n w0 (w.alloc o) k b t := h.below ((Below.refl _ _).alloc (Nat.le_refl _) o)
theorem Uno.one (h : Uno n w0 w k b t) (hg : w.grownBy w' (some b)) (hi : IsK k w' b t') : Uno n w0 w' k b t' :=
  ⟨h.bel.grown hg h.size (fun j e => by injection e with e; rw [← e]; exact h.n1), h.n1, hi⟩
theorem Uno.else_ (h : Uno n w0 w k b t) {r : Option Nat} (hg : w.grownBy w' r) (hr : ∀ j, r = some j → n ≤ j ∧ j ≠ b) : Uno n w0 w' k b t :=
  ⟨h.bel.grown hg h.size (fun j e => (hr j e).1), h.n1, h.i1.same (hg.block b h.i1.lt (fun e => (hr b e.symm).2 rfl))⟩
/-- A clone stands beside it. -/
theorem Uno.clone (h : Uno n w0 w k b t) (hb : Below w.heap.size w w') {b2 : Nat} (h2 : w.heap.size ≤ b2) {t2 : List Nat} {k2 : Nat} (hi : IsK k2 w' b2 t2) : Duo n w0 w' k b t k2 b2 t2 :=
  ⟨h.bel.trans (hb.mono h.size), h.n1, Nat.le_trans h.size h2, by have := h.i1.lt; omega, h.i1.same (hb.block b h.i1.lt), hi⟩
end
theorem Duo.fst {n : Nat} {w0 w : World} {k1 b1 k2 b2 : Nat} {t1 t2 : List Nat} (h : Duo n w0 w k1 b1 t1 k2 b2 t2) : Uno n w0 w k1 b1 t1 := ⟨h.bel, h.n1, h.i1⟩
/-- The first i bytes of the padded key. -/
def pads (key : ByteArray) (x i : Nat) : List Nat := (List.range i).map fun j => (bs key).getD j 0 ^^^ x
theorem length_pads (key : ByteArray) (x i : Nat) : (pads key x i).length = i := by simp [pads]
theorem pads_succ (key : ByteArray) (x i : Nat) : pads key x (i + 1) = pads key x i ++ [(bs key).getD i 0 ^^^ x] := by simp [pads, List.range_succ]
theorem pads_all (κ : Sha.Kind) (key : ByteArray) (x : Nat) : pads key x κ.block = Sha.padded κ (bs key) x := rfl
theorem bits_pad (key : ByteArray) (x i : Nat) (hx : x < 256) : bits .xor .u8 (((bs key).getD i 0 : Nat) : Int) (x : Int) = (((bs key).getD i 0 ^^^ x : Nat) : Int) := xor_u8 _ _ (getD_bs_lt key i) hx
theorem pad_lt (key : ByteArray) (x i : Nat) (hx : x < 256) : (bs key).getD i 0 ^^^ x < 256 := Nat.xor_lt_two_pow (n := 8) (getD_bs_lt key i) hx
theorem short_eq (k : Nat) (hk : k < 2) (key : ByteArray) (h : ¬ 64 + 64 * k < key.size) : Sha.short (kd k) (bs key) = bs key := by
  unfold Sha.short; rw [block_kd k hk, length_bs, if_neg h]
theorem short_sum (k : Nat) (hk : k < 2) (key : ByteArray) (h : 64 + 64 * k < key.size) : Sha.short (kd k) (bs key) = Sha.sum (kd k) (bs key) := by
  unfold Sha.short; rw [block_kd k hk, length_bs, if_pos h]
theorem getD_bs_eq (key : ByteArray) (i : Nat) (h : i < key.size) : (((bs key).getD i 0 : Nat) : Int) = (key[i].toNat : Int) := by
  have hl : i < (bs key).length := by rw [length_bs]; exact h
  rw [List.getD_eq_getElem?_getD, List.getElem?_eq_getElem hl]; simp [bs]; rfl
theorem getD_bs_out (key : ByteArray) (i : Nat) (h : key.size ≤ i) : (bs key).getD i 0 = 0 := by
  rw [List.getD_eq_getElem?_getD, List.getElem?_eq_none (by rw [length_bs]; exact h)]; rfl
/-- What the two paddings end in. -/
theorem mac_pads (k : Nat) (hk : k < 2) (key ks : ByteArray) (s : List Nat) (hs : bs ks = Sha.short (kd k) (bs key)) :
    Sha.sum (kd k) (pads ks 92 (64 + 64 * k) ++ Sha.sum (kd k) (pads ks 54 (64 + 64 * k) ++ s)) = Sha.mac (kd k) (bs key) s := by
  unfold Sha.mac
  rw [← hs, ← block_kd k hk, pads_all, pads_all]
end Go.Proofs.Ytjlhckgokdjajaa
