/- Plain facts for the reference's Sum: its bytes, its padding, its sums of numbers. -/
import Derived.Test.YtjlhckgokdjajaaOf
import Derived.Test.YtjlhckgokdjajaaLoose
import Derived.Test.YtjlhckgokdjajaaState
import Derived.Test.YtjlhckgokdjajaaSum32
namespace Go.Proofs.Ytjlhckgokdjajaa
open Go.RowKit
theorem rb_64 (x : Nat) : rb x 8 = Sha.bytesOf 64 x := by
  unfold rb Sha.bytesOf
  refine List.map_congr_left fun j hj => ?_
  have := List.mem_range.1 hj
  unfold rbAt
  rw [if_neg (by omega), show 64 - 8 - 8 * j = 8 * (8 - 1 - j) by omega]
theorem rb_32 (x : Nat) : rb x 4 = Sha.bytesOf 32 x := by
  unfold rb Sha.bytesOf
  refine List.map_congr_left fun j hj => ?_
  have := List.mem_range.1 hj
  unfold rbAt
  rw [if_neg (by omega), show 32 - 8 - 8 * j = 8 * (4 - 1 - j) by omega]
theorem rb_128 (x : Nat) : rb x 16 = List.replicate 8 0 ++ Sha.bytesOf 64 x := by
  unfold rb
  rw [show List.range 16 = List.range 8 ++ (List.range 8).map (8 + ·) by decide, List.map_append, List.map_map]
  refine congr (congrArg _ ?_) ?_
  · refine List.ext_getElem? fun j => ?_
    by_cases hj : j < 8
    · have e : rbAt x 16 j = 0 := by unfold rbAt; rw [if_pos (by omega)]
      rw [List.getElem?_replicate, if_pos hj, List.getElem?_map, List.getElem?_range hj, Option.map_some, e]
    · rw [List.getElem?_eq_none (by simp; omega), List.getElem?_eq_none (by simp; omega)]
  · unfold Sha.bytesOf
    refine List.map_congr_left fun j hj => ?_
    have := List.mem_range.1 hj
    show rbAt x 16 (8 + j) = _
    unfold rbAt
    rw [if_neg (by omega), show 64 - 8 - 8 * j = 8 * (16 - 1 - (8 + j)) by omega]
/-- The message, whole. -/
theorem msg32 (t : List Nat) (h : t.length ≤ 100000000000000) : (t ++ 128 :: List.replicate ((119 - t.length % 64) % 64) 0) ++ rb (8 * t.length) 8 = t ++ Sha.pad Sha.k32 t.length := by
  unfold Sha.pad
  rw [rb_64, Nat.mod_eq_of_lt (show 8 * t.length < 2 ^ 64 by omega), List.append_assoc]
  rfl
theorem msg64 (t : List Nat) (h : t.length ≤ 100000000000000) : (t ++ 128 :: List.replicate ((239 - t.length % 128) % 128) 0) ++ rb (8 * t.length) 16 = t ++ Sha.pad Sha.k64 t.length := by
  unfold Sha.pad
  rw [rb_128, Nat.mod_eq_of_lt (show 8 * t.length < 2 ^ 64 by omega), List.append_assoc]
  rfl
theorem length_pad32 (n : Nat) : (Sha.pad Sha.k32 n).length = 1 + (119 - n % 64) % 64 + 8 := by
  unfold Sha.pad
  simp only [List.length_cons, List.length_append, List.length_replicate]
  show (119 - n % 64) % 64 + (0 + 8) + 1 = _
  omega
theorem length_pad64 (n : Nat) : (Sha.pad Sha.k64 n).length = 1 + (239 - n % 128) % 128 + 16 := by
  unfold Sha.pad
  simp only [List.length_cons, List.length_append, List.length_replicate]
  show (239 - n % 128) % 128 + (8 + 8) + 1 = _
  omega
theorem wpart_lt_pow (w : Nat) : ∀ (l : List Nat), (∀ c ∈ l, c < 256) → Sha.wpart w l < 2 ^ (8 * l.length) := by
  have h : ∀ (l : List Nat) (n a : Nat), a < 2 ^ (8 * n) → (∀ c ∈ l, c < 256) → l.foldl (fun acc c => (acc * 256 % 2 ^ w) ||| c) a < 2 ^ (8 * (n + l.length)) := by
    intro l
    induction l with
    | nil => intro n a ha _; exact ha
    | cons c l ih =>
      intro n a ha hc
      have e : 2 ^ (8 * (n + 1)) = 2 ^ (8 * n) * 256 := by rw [Nat.mul_add, Nat.pow_add]
      have h1 : a * 256 % 2 ^ w < 2 ^ (8 * (n + 1)) := by
        refine Nat.lt_of_le_of_lt (Nat.mod_le _ _) ?_
        rw [e]
        exact Nat.mul_lt_mul_of_pos_right ha (by decide)
      have h2 : c < 2 ^ (8 * (n + 1)) := by
        have := hc c (by simp)
        have := Nat.two_pow_pos (8 * n)
        rw [e]
        omega
      have := ih (n + 1) _ (Nat.or_lt_two_pow h1 h2) (fun c' hc' => hc c' (by simp [hc']))
      rw [List.foldl_cons, List.length_cons, show n + (l.length + 1) = n + 1 + l.length by omega]
      exact this
  intro l hl
  have := h l 0 0 (by decide) hl
  rwa [Nat.zero_add] at this
theorem wF_lt_pow (κ : Sha.Kind) (bl : List Nat) (i m : Nat) (hm : κ.w / 8 * i + m ≤ bl.length) (hb : ∀ c ∈ bl, c < 256) : Sha.wF κ bl i m i < 2 ^ (8 * m) := by
  unfold Sha.wF
  rw [if_neg (Nat.lt_irrefl i), if_pos rfl]
  have h := wpart_lt_pow κ.w ((bl.drop (κ.w / 8 * i)).take m) (fun c hc => hb c (List.mem_of_mem_drop (List.mem_of_mem_take hc)))
  have hl : ((bl.drop (κ.w / 8 * i)).take m).length = m := by rw [List.length_take, List.length_drop]; omega
  rwa [hl] at h
/-- A byte more of a word, in memory. -/
theorem rwRow_step (κ : Sha.Kind) {wr : World} {Bw R : Nat} {bl : List Nat} {i m x c y : Nat} (hlen : κ.w / 8 * i + m < bl.length) (hR : i < R) (hw : 8 * (m + 1) ≤ κ.w) (hb : ∀ c ∈ bl, c < 256)
    (hx : Sha.wF κ bl i m i = x) (hc : bl.getD (κ.w / 8 * i + m) 0 = c) (hy : y = (x * 256 ||| c)) (h : Row wr Bw 58 .u64 R (Sha.wF κ bl i m)) :
    Row (wr.setCell ⟨Bw, i, none⟩ (.int .u64 (y : Nat))) Bw 58 .u64 R (Sha.wF κ bl i (m + 1)) := by
  refine (h.set hR y).congr fun j _ => ?_
  rw [Sha.wF_step κ bl i m hlen, hx, hc, hy]
  have hx2 : x < 2 ^ (8 * m) := by rw [← hx]; exact wF_lt_pow κ bl i m (by omega) hb
  have e : x * 256 % 2 ^ κ.w = x * 256 := by
    refine Nat.mod_eq_of_lt (Nat.lt_of_lt_of_le (Nat.mul_lt_mul_of_pos_right hx2 (by decide)) ?_)
    rw [show (256 : Nat) = 2 ^ 8 from rfl, ← Nat.pow_add]
    exact Nat.pow_le_pow_right (by decide) (by omega)
  rw [e]
/-- The sum of four numbers, cut. -/
theorem cut_add4 (wd a b c d : Nat) (hw : wd ≤ 64) : (((a + b) % 2 ^ 64 + c) % 2 ^ 64 + d) % 2 ^ 64 % 2 ^ wd = Sha.add wd (Sha.add wd (Sha.add wd a b) c) d := by
  have hd : 2 ^ wd ∣ 2 ^ 64 := Nat.pow_dvd_pow 2 hw
  unfold Sha.add
  rw [Nat.mod_mod_of_dvd _ hd]
  rw [Nat.add_mod (((a + b) % 2 ^ 64 + c) % 2 ^ 64), Nat.mod_mod_of_dvd _ hd, Nat.add_mod ((a + b) % 2 ^ 64), Nat.mod_mod_of_dvd _ hd]
  simp [Nat.add_mod]
theorem cut_add2 (wd a b : Nat) (hw : wd ≤ 64) : (a + b) % 2 ^ 64 % 2 ^ wd = Sha.add wd a b := by
  unfold Sha.add
  exact Nat.mod_mod_of_dvd _ (Nat.pow_dvd_pow 2 hw)
/-- A number more of the schedule, in memory. -/
theorem rgRow_step (κ : Sha.Kind) {wr : World} {Bw R : Nat} {bl : List Nat} {i z : Nat} {f : Nat → Nat} (h0 : 16 ≤ i) (hi : i < R) (hf : f = Sha.gF κ bl (i - 16))
    (hz : z = Sha.add κ.w (Sha.add κ.w (Sha.add κ.w (f (i - 16)) (Sha.mix κ.w (f (i - 15)) κ.a.1 κ.a.2.1 κ.a.2.2 true)) (f (i - 7))) (Sha.mix κ.w (f (i - 2)) κ.b.1 κ.b.2.1 κ.b.2.2 true))
    (h : Row wr Bw 58 .u64 R f) : Row (wr.setCell ⟨Bw, i, none⟩ (.int .u64 (z : Nat))) Bw 58 .u64 R (Sha.gF κ bl (i + 1 - 16)) := by
  refine (h.set hi z).congr fun j _ => ?_
  rw [show i + 1 - 16 = (i - 16) + 1 by omega, Sha.gF_step, ← hf, show 16 + (i - 16) = i by omega, hz]
theorem grownBy_trans {a b c : World} {r : Option Nat} (h1 : a.grownBy b r) (h2 : b.grownBy c r) : a.grownBy c r :=
  ⟨h2.os.trans h1.os, h2.tape.trans h1.tape, h2.output.trans h1.output, Nat.le_trans h1.size h2.size, fun k hk hne => (h2.block k (Nat.lt_of_lt_of_le hk h1.size) hne).trans (h1.block k hk hne)⟩
theorem below_grownBy {a b : World} (h : Below a.heap.size a b) (r : Option Nat) : a.grownBy b r := ⟨h.os, h.tape, h.output, h.size, fun k hk _ => h.block k hk⟩
theorem xor_u64v (a b c : Nat) (ha : a < 2 ^ 64) (hb : b < 2 ^ 64) (hc : c = a ^^^ b) : bits .xor .u64 (a : Int) (b : Int) = (c : Int) := by rw [hc]; exact xor_u64 a b ha hb
theorem and_u64v (a b c : Nat) (ha : a < 2 ^ 64) (hb : b < 2 ^ 64) (hc : c = a &&& b) : bits .and .u64 (a : Int) (b : Int) = (c : Int) := by rw [hc]; exact and_u64 a b ha hb
theorem wrap_u64v (a b c : Nat) (hc : c = (a + b) % 2 ^ 64) : IntKind.u64.wrap ((a : Int) + (b : Int)) = (c : Int) := by rw [hc, IntKind.wrap_u64]; omega
theorem max_u64' : IntKind.u64.max = ((18446744073709551615 : Nat) : Int) := by decide
theorem not_u64v (x c : Nat) (hx : x < 2 ^ 64) (hc : c = 2 ^ 64 - 1 - x) : bits .xor .u64 IntKind.u64.max (x : Int) = (c : Int) := by
  rw [max_u64', xor_u64 _ _ (by decide) hx, hc]
  congr 1
  refine Nat.eq_of_testBit_eq fun i => ?_
  rw [Nat.testBit_xor, show 18446744073709551615 = 2 ^ 64 - 1 by rfl, Nat.testBit_two_pow_sub_one, show 2 ^ 64 - 1 - x = 2 ^ 64 - (x + 1) by omega, Nat.testBit_two_pow_sub_succ hx]
  by_cases h : i < 64
  · simp [h]
  · simp [h, Nat.testBit_lt_two_pow (Nat.lt_of_lt_of_le hx (Nat.pow_le_pow_right (by decide) (Nat.le_of_not_lt h)))]
theorem not_cut (wd x : Nat) (hw : wd ≤ 64) (hx : x < 2 ^ wd) : (2 ^ 64 - 1 - x) % 2 ^ wd = 2 ^ wd - 1 - x := by
  have h1 : 2 ^ 64 = 2 ^ wd * 2 ^ (64 - wd) := by rw [← Nat.pow_add]; congr 1; omega
  obtain ⟨m, hm⟩ : ∃ m, m = 2 ^ (64 - wd) := ⟨_, rfl⟩
  have hm0 : 0 < m := by rw [hm]; exact Nat.two_pow_pos _
  have h2 : 2 ^ 64 - 1 - x = (2 ^ wd - 1 - x) + 2 ^ wd * (m - 1) := by
    rw [h1, ← hm, Nat.mul_sub, Nat.mul_one]
    have : 2 ^ wd ≤ 2 ^ wd * m := Nat.le_mul_of_pos_right _ hm0
    omega
  rw [h2, Nat.add_mul_mod_self_left, Nat.mod_eq_of_lt (by omega)]
/-- A round's first sum, uncut. -/
def t64 (κ : Sha.Kind) (f : Nat → Nat) (ki wi : Nat) : Nat :=
  (((f 7 + Sha.mix κ.w (f 4) κ.c.1 κ.c.2.1 κ.c.2.2 false) % 2 ^ 64 + ((f 4 &&& f 5) ^^^ ((2 ^ κ.w - 1 - f 4) &&& f 6))) % 2 ^ 64 + ki) % 2 ^ 64 + wi
theorem mod_mod64 (wd a b : Nat) (hw : wd ≤ 64) : (a % 2 ^ 64 + b) % 2 ^ wd = (a % 2 ^ wd + b) % 2 ^ wd := by
  rw [Nat.add_mod, Nat.mod_mod_of_dvd _ (Nat.pow_dvd_pow 2 hw), ← Nat.add_mod, Nat.add_mod (a % 2 ^ wd), Nat.mod_mod, ← Nat.add_mod]
theorem t64_cut (κ : Sha.Kind) (hw : κ.w ≤ 64) (f : Nat → Nat) (ki wi : Nat) : t64 κ f ki wi % 2 ^ 64 % 2 ^ κ.w = Sha.tF κ f ki wi := by
  unfold t64 Sha.tF Sha.add
  rw [Nat.mod_mod_of_dvd _ (Nat.pow_dvd_pow 2 hw), mod_mod64 κ.w _ _ hw, mod_mod64 κ.w _ _ hw, mod_mod64 κ.w _ _ hw]
def u64s (κ : Sha.Kind) (f : Nat → Nat) : Nat := Sha.mix κ.w (f 0) κ.d.1 κ.d.2.1 κ.d.2.2 false + (((f 0 &&& f 1) ^^^ (f 0 &&& f 2)) ^^^ (f 1 &&& f 2))
theorem u64_cut (κ : Sha.Kind) (hw : κ.w ≤ 64) (f : Nat → Nat) : u64s κ f % 2 ^ 64 % 2 ^ κ.w = Sha.uF κ f := by
  unfold u64s Sha.uF Sha.add
  exact Nat.mod_mod_of_dvd _ (Nat.pow_dvd_pow 2 hw)
theorem add_cut (wd a b a' b' : Nat) (hw : wd ≤ 64) (ha : a % 2 ^ wd = a') (hb : b % 2 ^ wd = b') : (a + b) % 2 ^ 64 % 2 ^ wd = Sha.add wd a' b' := by
  unfold Sha.add
  rw [Nat.mod_mod_of_dvd _ (Nat.pow_dvd_pow 2 hw), ← ha, ← hb, ← Nat.add_mod]
theorem getD_flatMap_bytes (w : Nat) (st : List Nat) (i : Nat) (h : i < st.length) : (st.take (i + 1)).flatMap (Sha.bytesOf w) = (st.take i).flatMap (Sha.bytesOf w) ++ Sha.bytesOf w (st.getD i 0) := by
  rw [take_succ_getD st i 0 h, List.flatMap_append]
  simp
end Go.Proofs.Ytjlhckgokdjajaa
