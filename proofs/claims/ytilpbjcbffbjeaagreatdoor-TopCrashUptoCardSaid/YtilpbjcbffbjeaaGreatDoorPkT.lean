/- The walks of ror and mixed, of 32 and of 64 bits.
   Plain facts on words, the schedule and the rounds, for the loops of 'next'. No program in sight.
   Plain facts on the state behind bytes that come in pieces. No program in sight.
   The object Hash in memory: its kind's numbers, the two states, the block under way, how many bytes were written. No function of the program in sight.
   append(b, make([]byte, n)...): n noughts behind what b holds. No function of the program in sight. -/
import Derived.Test.YtilpbjcbffbjeaaGreatDoorProg
import Derived.Test.YtilpbjcbffbjeaaGreatDoorPkA
import Derived.Test.YtilpbjcbffbjeaaGreatDoorHSpec
import Derived.WalkKit
import Derived.WalkSpells
import Derived.Lib.Strings
namespace Go.Proofs.YtilpbjcbffbjeaaGreatDoor
set_option linter.unusedVariables false
open Go.RowKit

theorem ror_lt (w x n : Nat) (hx : x < 2 ^ w) : Sha.ror w x n < 2 ^ w :=
  Nat.or_lt_two_pow (Nat.lt_of_le_of_lt (Nat.div_le_self _ _) hx) (Nat.mod_lt _ (Nat.two_pow_pos w))
theorem shr_lt (w x n : Nat) (hx : x < 2 ^ w) : x / 2 ^ n < 2 ^ w := Nat.lt_of_le_of_lt (Nat.div_le_self _ _) hx
theorem mix_lt (w x a b c : Nat) (sh : Bool) (hx : x < 2 ^ w) : Sha.mix w x a b c sh < 2 ^ w := by
  refine Nat.xor_lt_two_pow (Nat.xor_lt_two_pow (ror_lt w x a hx) (ror_lt w x b hx)) ?_
  split
  · exact shr_lt w x c hx
  · exact ror_lt w x c hx

theorem shr_nat (x n : Nat) : (x : Int) / 2 ^ n = ((x / 2 ^ n : Nat) : Int) := by simp
theorem shl_nat32 (x n : Nat) : (x : Int) * 2 ^ n % 4294967296 = ((x * 2 ^ n % 2 ^ 32 : Nat) : Int) := by simp
theorem rorI32 (x : Nat) (n : Int) (hx : x < 2 ^ 32) (h0 : 0 ≤ n) (h1 : n ≤ 32) :
    bits BinOp.or IntKind.u32 ((x : Int) / 2 ^ n.toNat) ((x : Int) * 2 ^ (32 - n).toNat % 4294967296) = (Sha.ror 32 x n.toNat : Nat) := by
  obtain ⟨m, rfl⟩ := Int.eq_ofNat_of_zero_le h0
  have e : (32 - (m : Int)).toNat = 32 - m := by omega
  rw [e, Int.toNat_natCast, shr_nat, shl_nat32]
  exact or_u32 _ _ (shr_lt 32 x m hx) (Nat.mod_lt _ (by decide))

set_option maxHeartbeats 400000 in
theorem ror32 (n : Int) (ax ab : Addr) (x : Nat) (w : World) (hx : w.cell? ax = some (.int .u32 (x : Int))) (hb : w.cell? ab = some (.int .i64 32)) (h0 : 0 ≤ n) (h1 : n ≤ 32) (hl : x < 2 ^ 32) :
    Calls Tryz.prog 179 #[.int .i64 n, .pointer (some ax), .pointer (some ab)] w fun e w' => e = .returned (.int .u32 (Sha.ror 32 x n.toNat : Nat)) ∧ ∃ k, w' = w.drewN k := by
  have HR := Lib.hid (rorI32 x n hl h0 h1)
  clear hl
  go_enter Tryz.func179, Tryz.ntmps179
  go_wp2
  go_quiet (fail)
  go_wp2
  go_ret
  exact ⟨by rw [← HR.out]; rfl, _, rfl⟩

theorem mixI32 (x a b c : Nat) (hx : x < 2 ^ 32) (sh : Bool) (v : Nat) (hv : v = if sh then x / 2 ^ c else Sha.ror 32 x c) :
    bits BinOp.xor IntKind.u32 (bits BinOp.xor IntKind.u32 (Sha.ror 32 x a : Nat) (Sha.ror 32 x b : Nat)) (v : Nat) = (Sha.mix 32 x a b c sh : Nat) := by
  have hl : v < 2 ^ 32 := by
    rw [hv]; split
    · exact shr_lt 32 x c hx
    · exact ror_lt 32 x c hx
  rw [xor_u32 _ _ (ror_lt 32 x a hx) (ror_lt 32 x b hx), xor_u32 _ _ (Nat.xor_lt_two_pow (ror_lt 32 x a hx) (ror_lt 32 x b hx)) hl, hv]
  rfl

set_option maxHeartbeats 400000 in
theorem mixed32 (x : Nat) (a b c : Int) (w : World) (hl : x < 2 ^ 32) (ha0 : 0 ≤ a) (ha1 : a ≤ 32) (hb0 : 0 ≤ b) (hb1 : b ≤ 32) (hc0 : 0 ≤ c) (hc1 : c ≤ 32) (sh : Bool) :
    Calls Tryz.prog 170 #[.int .u32 (x : Int), .agg #[.int .i64 a, .int .i64 b, .int .i64 c], .int .i64 32, .bool sh] w fun e w' =>
      e = .returned (.int .u32 (Sha.mix 32 x a.toNat b.toNat c.toNat sh : Nat)) ∧ Below w.heap.size w w' := by
  have hbel : ∀ n, Below w.heap.size w ((((w.alloc (.cells #[.int .u32 (x : Int)] 237)).alloc (.cells #[.int .i64 a, .int .i64 b, .int .i64 c] 227)).alloc (.cells #[.int .i64 32] 3)).drewN n) :=
    below_drewN ((((Below.refl _ _).alloc (Nat.le_refl _) _).alloc (by simp) _).alloc (by simp; omega) _)
  have Hbel := Lib.hid hbel
  have Hl := Lib.hid hl
  clear hbel hl
  cases sh
  · go_enter Tryz.func170, Tryz.ntmps170
    go_wp2_with fail
    refine (ror32 c _ _ x _ ?_ ?_ hc0 hc1 Hl.out).mono ?_
    · go_simp
    · go_simp
    rintro e w1 ⟨rfl, k, rfl⟩
    go_wp2_with fail
    refine wp_region_fam (by kernel_rfl) (by kernel_rfl) (fun n => (((w.alloc (.cells #[.int .u32 (x : Int)] 237)).alloc (.cells #[.int .i64 a, .int .i64 b, .int .i64 c] 227)).alloc (.cells #[.int .i64 32] 3)).drewN n) ⟨k + 1, by simp⟩ ?_
    repeat go_big_quiet_step ((refine Calls.fam_of (ror32 _ _ _ x _ ?_ ?_ (by assumption) (by assumption) Hl.out) ?_; go_simp; go_simp; (rintro _ ⟨k, rfl⟩; exact ⟨_, World.drewN_drewN _ _ _⟩)))
    refine wpQuiet_nil ?_
    intro t
    go_wp2
    go_ret
    refine ⟨?_, Hbel.out _⟩
    rw [← mixI32 x a.toNat b.toNat c.toNat Hl.out false _ rfl]
    rfl
  · go_enter Tryz.func170, Tryz.ntmps170
    go_wp2_with fail
    go_quiet ((refine Calls.quiet_of (ror32 _ _ _ x _ ?_ ?_ (by assumption) (by assumption) Hl.out) <;> go_simp))
    go_wp2
    go_ret
    refine ⟨?_, Hbel.out _⟩
    rw [← mixI32 x a.toNat b.toNat c.toNat Hl.out true _ rfl]
    simp only [if_true, ← shr_nat]
    rfl
end Go.Proofs.YtilpbjcbffbjeaaGreatDoor
namespace Go.Proofs.YtilpbjcbffbjeaaGreatDoor.Sha

theorem getD_out {l : List Nat} {j : Nat} (h : l.length ≤ j) : l.getD j 0 = 0 := by rw [List.getD_eq_getElem?_getD, List.getElem?_eq_none h]; rfl
theorem getD_left {a b : List Nat} {j : Nat} (h : j < a.length) : (a ++ b).getD j 0 = a.getD j 0 := by
  rw [List.getD_eq_getElem?_getD, List.getD_eq_getElem?_getD, List.getElem?_append_left h]
theorem getD_right {a b : List Nat} {j : Nat} (h : a.length ≤ j) : (a ++ b).getD j 0 = b.getD (j - a.length) 0 := by
  rw [List.getD_eq_getElem?_getD, List.getD_eq_getElem?_getD, List.getElem?_append_right h]
theorem add_lt (w x y : Nat) : add w x y < 2 ^ w := Nat.mod_lt _ (Nat.two_pow_pos w)
theorem wpart_snoc (w : Nat) (l : List Nat) (c : Nat) : wpart w (l ++ [c]) = (wpart w l * 256 % 2 ^ w) ||| c := by simp [wpart]
theorem wpart_lt (w : Nat) (l : List Nat) (h : ∀ c ∈ l, c < 2 ^ w) : wpart w l < 2 ^ w := by
  have : ∀ (l : List Nat) (a : Nat), a < 2 ^ w → (∀ c ∈ l, c < 2 ^ w) → l.foldl (fun acc c => (acc * 256 % 2 ^ w) ||| c) a < 2 ^ w := by
    intro l
    induction l with
    | nil => intro a ha _; exact ha
    | cons c l ih => intro a ha h; exact ih _ (Nat.or_lt_two_pow (Nat.mod_lt _ (Nat.two_pow_pos w)) (h c (by simp))) (fun c hc => h c (by simp [hc]))
  exact this l 0 (Nat.two_pow_pos w) h

/-- w behind i whole words and m bytes of the next one -/
def wF (k : Kind) (bl : List Nat) (i m : Nat) (j : Nat) : Nat := if j < i then wordAt k bl j else if j = i then wpart k.w ((bl.drop (k.w / 8 * i)).take m) else 0
theorem wF_start (k : Kind) (bl : List Nat) (j : Nat) : wF k bl 0 0 j = 0 := by
  unfold wF
  split
  · omega
  · split <;> simp [wpart]
theorem wF_step (k : Kind) (bl : List Nat) (i m : Nat) (h : k.w / 8 * i + m < bl.length) (j : Nat) :
    wF k bl i (m + 1) j = if j = i then (wF k bl i m i * 256 % 2 ^ k.w) ||| bl.getD (k.w / 8 * i + m) 0 else wF k bl i m j := by
  unfold wF
  have hm : m < (bl.drop (k.w / 8 * i)).length := by simp; omega
  by_cases e : j = i
  · subst e
    simp only [Nat.lt_irrefl, if_false, if_true]
    rw [List.take_succ_eq_append_getElem hm, wpart_snoc]
    simp [List.getElem_drop, h]
  · simp [e]
theorem wF_whole (k : Kind) (bl : List Nat) (i : Nat) (j : Nat) : wF k bl i (k.w / 8) j = wF k bl (i + 1) 0 j := by
  unfold wF
  by_cases h : j < i
  · rw [if_pos h, if_pos (by omega)]
  · by_cases e : j = i
    · subst e; rw [if_neg h, if_pos rfl, if_pos (by omega)]; rfl
    · rw [if_neg h, if_neg e, if_neg (by omega)]
      split <;> simp [wpart]
theorem wF_lt (k : Kind) (bl : List Nat) (i m j : Nat) (hb : ∀ c ∈ bl, c < 2 ^ k.w) : wF k bl i m j < 2 ^ k.w := by
  unfold wF
  split
  · exact wpart_lt _ _ fun c hc => hb c (List.mem_of_mem_drop (List.mem_of_mem_take hc))
  · split
    · exact wpart_lt _ _ fun c hc => hb c (List.mem_of_mem_drop (List.mem_of_mem_take hc))
    · exact Nat.two_pow_pos _

def gF (k : Kind) (bl : List Nat) (n j : Nat) : Nat := (grow k (words k bl) n).getD j 0
theorem length_words (k : Kind) (bl : List Nat) : (words k bl).length = 16 := by simp [words]
theorem length_grow (k : Kind) (l : List Nat) (n : Nat) : (grow k l n).length = l.length + n := by
  induction n with
  | zero => rfl
  | succ n ih => simp [grow, ih]; omega
theorem wF_gF (k : Kind) (bl : List Nat) (j : Nat) : wF k bl 16 0 j = gF k bl 0 j := by
  unfold wF gF grow words
  by_cases h : j < 16
  · rw [if_pos h]; simp [h]
  · rw [if_neg h, getD_out (by simp; omega)]
    split <;> simp [wpart]
theorem gF_step (k : Kind) (bl : List Nat) (n j : Nat) : gF k bl (n + 1) j = if j = 16 + n then
    add k.w (add k.w (add k.w (gF k bl n (16 + n - 16)) (mix k.w (gF k bl n (16 + n - 15)) k.a.1 k.a.2.1 k.a.2.2 true)) (gF k bl n (16 + n - 7))) (mix k.w (gF k bl n (16 + n - 2)) k.b.1 k.b.2.1 k.b.2.2 true)
    else gF k bl n j := by
  have hl : (grow k (words k bl) n).length = 16 + n := by rw [length_grow, length_words]
  unfold gF
  rw [grow]
  by_cases e : j = 16 + n
  · subst e
    rw [if_pos rfl, getD_right (by omega), hl]
    simp [sched]
  · rw [if_neg e]
    by_cases h : j < 16 + n
    · rw [getD_left (by omega)]
    · rw [getD_out (by simp; omega), getD_out (by omega)]
theorem gF_lt (k : Kind) (bl : List Nat) (hb : ∀ c ∈ bl, c < 2 ^ k.w) (n : Nat) : ∀ j, gF k bl n j < 2 ^ k.w := by
  induction n with
  | zero => intro j; rw [← wF_gF]; exact wF_lt k bl 16 0 j hb
  | succ n ih =>
    intro j
    rw [gF_step]
    split
    · exact add_lt _ _ _
    · exact ih j

def rF (k : Kind) (ws s : List Nat) (n j : Nat) : Nat := (rounds k ws s n).getD j 0
def tF (k : Kind) (v : Nat → Nat) (ki wi : Nat) : Nat :=
  add k.w (add k.w (add k.w (add k.w (v 7) (mix k.w (v 4) k.c.1 k.c.2.1 k.c.2.2 false)) (((v 4) &&& (v 5)) ^^^ ((2 ^ k.w - 1 - v 4) &&& (v 6)))) ki) wi
def uF (k : Kind) (v : Nat → Nat) : Nat :=
  add k.w (mix k.w (v 0) k.d.1 k.d.2.1 k.d.2.2 false) (((v 0 &&& v 1) ^^^ (v 0 &&& v 2)) ^^^ (v 1 &&& v 2))
/-- one round, on the eight numbers -/
def nF (k : Kind) (v : Nat → Nat) (t u : Nat) (j : Nat) : Nat := if j = 0 then add k.w t u else if j = 4 then add k.w (v 3) t else v (j - 1)
theorem rF_step (k : Kind) (ws s : List Nat) (n j : Nat) (hj : j < 8) :
    rF k ws s (n + 1) j = nF k (rF k ws s n) (tF k (rF k ws s n) (k.keys.getD n 0) (ws.getD n 0)) (uF k (rF k ws s n)) j := by
  unfold rF nF tF uF
  rw [rounds]
  generalize rounds k ws s n = v
  match j, hj with
  | 0, _ => rfl
  | 1, _ => rfl
  | 2, _ => rfl
  | 3, _ => rfl
  | 4, _ => rfl
  | 5, _ => rfl
  | 6, _ => rfl
  | 7, _ => rfl
theorem tF_lt (k : Kind) (v : Nat → Nat) (ki wi : Nat) : tF k v ki wi < 2 ^ k.w := add_lt _ _ _
theorem uF_lt (k : Kind) (v : Nat → Nat) : uF k v < 2 ^ k.w := add_lt _ _ _
theorem rF_lt (k : Kind) (ws s : List Nat) (hs : ∀ j, s.getD j 0 < 2 ^ k.w) (n : Nat) : ∀ j, j < 8 → rF k ws s n j < 2 ^ k.w := by
  induction n with
  | zero => intro j _; exact hs j
  | succ n ih =>
    intro j hj
    rw [rF_step k ws s n j hj]
    unfold nF
    split
    · exact add_lt _ _ _
    · split
      · exact add_lt _ _ _
      · exact ih _ (by omega)
theorem next_getD (k : Kind) (s bl : List Nat) (j : Nat) (hj : j < 8) :
    (next k s bl).getD j 0 = add k.w (rF k (grow k (words k bl) (k.keys.length - 16)) s k.keys.length j) (s.getD j 0) := by
  unfold next rF
  simp [hj]
theorem length_next (k : Kind) (s bl : List Nat) : (next k s bl).length = 8 := by simp [next]
theorem next_lt (k : Kind) (s bl : List Nat) (j : Nat) : (next k s bl).getD j 0 < 2 ^ k.w := by
  by_cases hj : j < 8
  · rw [next_getD k s bl j hj]; exact add_lt _ _ _
  · rw [getD_out (by rw [length_next]; omega)]; exact Nat.two_pow_pos _
end Go.Proofs.YtilpbjcbffbjeaaGreatDoor.Sha
namespace Go.Proofs.YtilpbjcbffbjeaaGreatDoor.Sha
theorem stateN_take (k : Kind) (t u : List Nat) (n : Nat) (h : n * k.block ≤ t.length) : stateN k (t ++ u) n = stateN k t n := by
  induction n with
  | zero => rfl
  | succ n ih =>
    have h1 : n * k.block + k.block ≤ t.length := by rw [Nat.add_mul, Nat.one_mul] at h; exact h
    rw [stateN, stateN, ih (by omega)]
    congr 1
    rw [List.drop_append_of_le_length (by omega), List.take_append_of_le_length (by rw [List.length_drop]; omega)]
theorem stateOf_short (k : Kind) (t p : List Nat) (h : t.length % k.block + p.length < k.block) : stateOf k (t ++ p) = stateOf k t := by
  unfold stateOf
  have e : (t ++ p).length / k.block = t.length / k.block := by
    rw [List.length_append]
    have h1 := Nat.div_add_mod t.length k.block
    refine (Nat.div_eq_of_lt_le ?_ ?_)
    · rw [Nat.mul_comm]; omega
    · rw [Nat.mul_comm, Nat.mul_add]; omega
  rw [e]
  exact stateN_take k t p _ (Nat.div_mul_le_self _ _)
theorem stateOf_full (k : Kind) (hb : 0 < k.block) (t p : List Nat) (h : t.length % k.block + p.length = k.block) :
    stateOf k (t ++ p) = next k (stateOf k t) ((t ++ p).drop (t.length - t.length % k.block)) := by
  have h1 := Nat.div_add_mod t.length k.block
  have e : (t ++ p).length / k.block = t.length / k.block + 1 := by
    rw [List.length_append]
    refine (Nat.div_eq_of_lt_le ?_ ?_)
    · rw [Nat.mul_comm, Nat.mul_add]; omega
    · rw [Nat.mul_comm, Nat.mul_add, Nat.mul_add]; omega
  have e2 : t.length / k.block * k.block = t.length - t.length % k.block := by rw [Nat.mul_comm]; omega
  show stateN k (t ++ p) ((t ++ p).length / k.block) = _
  rw [e, stateN, stateN_take k t p _ (Nat.div_mul_le_self _ _), e2]
  congr 1
  refine List.take_of_length_le ?_
  rw [List.length_drop, List.length_append]
  omega
theorem stateOf_nil (k : Kind) : stateOf k [] = k.init := by simp [stateOf, stateN]
theorem length_stateN (k : Kind) (hi : k.init.length = 8) (t : List Nat) (n : Nat) : (stateN k t n).length = 8 := by
  cases n with
  | zero => exact hi
  | succ n => exact length_next _ _ _
theorem stateN_lt (k : Kind) (hi : ∀ j, k.init.getD j 0 < 2 ^ k.w) (t : List Nat) (n j : Nat) : (stateN k t n).getD j 0 < 2 ^ k.w := by
  cases n with
  | zero => exact hi j
  | succ n => exact next_lt _ _ _ _
theorem init32_lt (j : Nat) : k32.init.getD j 0 < 2 ^ 32 := by
  by_cases h : j < 8
  · have : ∀ j : Fin 8, k32.init.getD j.val 0 < 2 ^ 32 := by decide
    exact this ⟨j, h⟩
  · rw [getD_out (by simp [k32]; omega)]; decide
theorem init64_lt (j : Nat) : k64.init.getD j 0 < 2 ^ 64 := by
  by_cases h : j < 8
  · have : ∀ j : Fin 8, k64.init.getD j.val 0 < 2 ^ 64 := by decide
    exact this ⟨j, h⟩
  · rw [getD_out (by simp [k64]; omega)]; decide
theorem stateOf_lt32 (t : List Nat) (j : Nat) : (stateOf k32 t).getD j 0 < 2 ^ 32 := stateN_lt k32 init32_lt t _ j
theorem stateOf_lt64 (t : List Nat) (j : Nat) : (stateOf k64 t).getD j 0 < 2 ^ 64 := stateN_lt k64 init64_lt t _ j
theorem length_stateOf32 (t : List Nat) : (stateOf k32 t).length = 8 := length_stateN k32 rfl t _
theorem length_stateOf64 (t : List Nat) : (stateOf k64 t).length = 8 := length_stateN k64 rfl t _
theorem told_lt (k : Kind) (s : List Nat) : ∀ c ∈ told k s, c < 256 := by
  intro c hc
  have := List.mem_of_mem_take hc
  obtain ⟨x, _, hx⟩ := List.mem_flatMap.1 this
  unfold bytesOf at hx
  obtain ⟨i, _, rfl⟩ := List.mem_map.1 hx
  exact Nat.mod_lt _ (by decide)
theorem length_flatMap_const (w : Nat) (s : List Nat) : (s.flatMap (bytesOf w)).length = s.length * (w / 8) := by
  induction s with
  | nil => simp
  | cons x s ih => rw [List.flatMap_cons, List.length_append, ih]; simp [bytesOf, Nat.add_mul, Nat.add_comm]
theorem length_sum32 (t : List Nat) : (sum k32 t).length = 32 := by
  unfold sum told
  rw [List.length_take, length_flatMap_const, length_stateOf32]
  rfl
theorem length_sum64 (t : List Nat) : (sum k64 t).length = 48 := by
  unfold sum told
  rw [List.length_take, length_flatMap_const, length_stateOf64]
  rfl
theorem sum_lt (k : Kind) (t : List Nat) : ∀ c ∈ sum k t, c < 256 := told_lt k _
theorem bytesOf_lt (w x : Nat) : ∀ c ∈ bytesOf w x, c < 256 := by
  intro c hc
  obtain ⟨i, _, rfl⟩ := List.mem_map.1 hc
  exact Nat.mod_lt _ (by decide)
theorem pad_lt (k : Kind) (n : Nat) : ∀ c ∈ pad k n, c < 256 := by
  intro c hc
  unfold pad at hc
  simp only [List.mem_cons, List.mem_append, List.mem_replicate] at hc
  rcases hc with rfl | ⟨_, rfl⟩ | ⟨_, rfl⟩ | h
  · omega
  · omega
  · omega
  · exact bytesOf_lt _ _ c h
end Go.Proofs.YtilpbjcbffbjeaaGreatDoor.Sha
namespace Go.Proofs.YtilpbjcbffbjeaaGreatDoor
set_option linter.unusedVariables false
open Go.RowKit
def kc32 : List Value := [.int .i64 32, .int .i64 7, .int .i64 18, .int .i64 3, .int .i64 17, .int .i64 19, .int .i64 10, .int .i64 6, .int .i64 11, .int .i64 25, .int .i64 2, .int .i64 13, .int .i64 22, .int .i64 64, .int .i64 32, .int .i64 8]
def kc64 : List Value := [.int .i64 64, .int .i64 1, .int .i64 8, .int .i64 7, .int .i64 19, .int .i64 61, .int .i64 6, .int .i64 14, .int .i64 18, .int .i64 41, .int .i64 28, .int .i64 34, .int .i64 39, .int .i64 128, .int .i64 48, .int .i64 16]
def hcells (ks : List Value) (v32 v64 blk : Nat → Nat) (size : Nat) : List Value := ks ++ (rowOf .u32 8 v32 ++ (rowOf .u64 8 v64 ++ (rowOf .u8 128 blk ++ [.int .i64 (size : Int)])))
structure HBlk (w : World) (B : Nat) (ks : List Value) (v32 v64 blk : Nat → Nat) (size : Nat) : Prop where
  len : ks.length = 16
  one : ∀ v ∈ ks, v.oneCell' = true
  at_ : w.heap[B]? = some (.cells (hcells ks v32 v64 blk size).toArray 249 (0, 0))
section
variable {w w' : World} {B : Nat} {ks : List Value} {v32 v64 blk : Nat → Nat} {size : Nat}
theorem length_hcells (hl : ks.length = 16) : (hcells ks v32 v64 blk size).length = 161 := by simp [hcells, length_rowOf, hl]
theorem hc_k (hl : ks.length = 16) {j : Nat} (hj : j < 16) : (hcells ks v32 v64 blk size)[j]? = ks[j]? := by
  unfold hcells; rw [List.getElem?_append_left (by omega)]
theorem hc_32 (hl : ks.length = 16) {j : Nat} (hj : j < 8) : (hcells ks v32 v64 blk size)[16 + j]? = some (.int .u32 (v32 j : Nat)) := by
  unfold hcells
  rw [List.getElem?_append_right (by omega), hl, Nat.add_sub_cancel_left, List.getElem?_append_left (by rw [length_rowOf]; omega), getElem?_rowOf _ _ _ _ hj]
theorem hc_64 (hl : ks.length = 16) {j : Nat} (hj : j < 8) : (hcells ks v32 v64 blk size)[24 + j]? = some (.int .u64 (v64 j : Nat)) := by
  unfold hcells
  rw [List.getElem?_append_right (by omega), List.getElem?_append_right (by rw [length_rowOf]; omega), length_rowOf, hl, show 24 + j - 16 - 8 = j by omega, List.getElem?_append_left (by rw [length_rowOf]; omega), getElem?_rowOf _ _ _ _ hj]
theorem hc_b (hl : ks.length = 16) {j : Nat} (hj : j < 128) : (hcells ks v32 v64 blk size)[32 + j]? = some (.int .u8 (blk j : Nat)) := by
  unfold hcells
  rw [List.getElem?_append_right (by omega), List.getElem?_append_right (by rw [length_rowOf]; omega), List.getElem?_append_right (by rw [length_rowOf, length_rowOf]; omega), length_rowOf, length_rowOf, hl, show 32 + j - 16 - 8 - 8 = j by omega,
    List.getElem?_append_left (by rw [length_rowOf]; omega), getElem?_rowOf _ _ _ _ hj]
theorem hc_s (hl : ks.length = 16) : (hcells ks v32 v64 blk size)[160]? = some (.int .i64 (size : Nat)) := by
  unfold hcells
  rw [List.getElem?_append_right (by omega), List.getElem?_append_right (by rw [length_rowOf]; omega), List.getElem?_append_right (by rw [length_rowOf, length_rowOf]; omega), List.getElem?_append_right (by rw [length_rowOf, length_rowOf, length_rowOf]; omega), length_rowOf, length_rowOf, length_rowOf, hl]
  rfl
/-- Two such lists are one if they agree part by part. -/
theorem hcells_ext (hl : ks.length = 16) {l : List Value} (hll : l.length = 161) (h0 : ∀ j, j < 16 → l[j]? = ks[j]?) (h1 : ∀ j, j < 8 → l[16 + j]? = some (.int .u32 (v32 j : Nat))) (h2 : ∀ j, j < 8 → l[24 + j]? = some (.int .u64 (v64 j : Nat)))
    (h3 : ∀ j, j < 128 → l[32 + j]? = some (.int .u8 (blk j : Nat))) (h4 : l[160]? = some (.int .i64 (size : Nat))) : l = hcells ks v32 v64 blk size := by
  refine List.ext_getElem? fun j => ?_
  by_cases c0 : j < 16
  · rw [h0 j c0, hc_k hl c0]
  · by_cases c1 : j < 24
    · obtain ⟨i, rfl⟩ : ∃ i, j = 16 + i := ⟨j - 16, by omega⟩
      rw [h1 i (by omega), hc_32 hl (by omega)]
    · by_cases c2 : j < 32
      · obtain ⟨i, rfl⟩ : ∃ i, j = 24 + i := ⟨j - 24, by omega⟩
        rw [h2 i (by omega), hc_64 hl (by omega)]
      · by_cases c3 : j < 160
        · obtain ⟨i, rfl⟩ : ∃ i, j = 32 + i := ⟨j - 32, by omega⟩
          rw [h3 i (by omega), hc_b hl (by omega)]
        · by_cases c4 : j = 160
          · subst c4; rw [h4, hc_s hl]
          · rw [List.getElem?_eq_none (by omega), List.getElem?_eq_none (by rw [length_hcells hl]; omega)]
theorem HBlk.lt (h : HBlk w B ks v32 v64 blk size) : B < w.heap.size := (Array.getElem?_eq_some_iff.1 h.at_).1
theorem HBlk.same (h : HBlk w B ks v32 v64 blk size) (e : w'.heap[B]? = w.heap[B]?) : HBlk w' B ks v32 v64 blk size := ⟨h.len, h.one, by rw [e]; exact h.at_⟩
theorem HBlk.grow (h : HBlk w B ks v32 v64 blk size) (t : Grow w) : HBlk t.val B ks v32 v64 blk size := h.same (t.below.block B h.lt)
theorem HBlk.cell (h : HBlk w B ks v32 v64 blk size) (j : Nat) : w.cell? ⟨B, j, none⟩ = (hcells ks v32 v64 blk size)[j]? := by
  rw [cell_of_row w B j _ 249 (0, 0) h.at_, List.getElem?_toArray]
theorem HBlk.kcell (h : HBlk w B ks v32 v64 blk size) {j : Nat} {v : Value} (hj : ks[j]? = some v) : w.cell? ⟨B, j, none⟩ = some v := by
  have : j < 16 := by rw [← h.len]; exact (List.getElem?_eq_some_iff.1 hj).1
  rw [h.cell, hc_k h.len this, hj]
theorem HBlk.scell (h : HBlk w B ks v32 v64 blk size) : w.cell? ⟨B, 160, none⟩ = some (.int .i64 (size : Nat)) := by rw [h.cell, hc_s h.len]
theorem HBlk.bcell (h : HBlk w B ks v32 v64 blk size) {j : Nat} (hj : j < 128) : w.cell? ⟨B, 32 + j, none⟩ = some (.int .u8 (blk j : Nat)) := by rw [h.cell, hc_b h.len hj]
theorem HBlk.free (h : HBlk w B ks v32 v64 blk size) (j : Nat) : w.frozen? ⟨B, j, none⟩ = false := frozen_of_row w B j _ 249 h.at_
theorem HBlk.range_k (h : HBlk w B ks v32 v64 blk size) : w.rangeAt B 0 ks := fun j v hv => by rw [Nat.zero_add]; exact h.kcell hv
theorem HBlk.range32 (h : HBlk w B ks v32 v64 blk size) : w.rangeAt B 16 (rowOf .u32 8 v32) := fun j v hv => by
  have hj : j < 8 := by rw [← length_rowOf .u32 8 v32]; exact (List.getElem?_eq_some_iff.1 hv).1
  rw [h.cell, hc_32 h.len hj, ← hv, getElem?_rowOf _ _ _ _ hj]
theorem HBlk.range64 (h : HBlk w B ks v32 v64 blk size) : w.rangeAt B 24 (rowOf .u64 8 v64) := fun j v hv => by
  have hj : j < 8 := by rw [← length_rowOf .u64 8 v64]; exact (List.getElem?_eq_some_iff.1 hv).1
  rw [h.cell, hc_64 h.len hj, ← hv, getElem?_rowOf _ _ _ _ hj]
theorem HBlk.setSize (h : HBlk w B ks v32 v64 blk size) (n : Nat) : HBlk (w.setCell ⟨B, 160, none⟩ (.int .i64 (n : Int))) B ks v32 v64 blk n := by
  refine ⟨h.len, h.one, ?_⟩
  rw [heap_setCell_same w B 160 _ 249 _ h.at_]
  refine congrArg some ?_
  refine congrArg (fun c => Obj.cells c 249 (0, 0)) ?_
  rw [List.setIfInBounds_toArray]
  refine congrArg List.toArray (hcells_ext h.len (by rw [List.length_set]; exact length_hcells h.len) ?_ ?_ ?_ ?_ ?_)
  · intro j hj; rw [List.getElem?_set_ne (by omega), hc_k h.len hj]
  · intro j hj; rw [List.getElem?_set_ne (by omega), hc_32 h.len hj]
  · intro j hj; rw [List.getElem?_set_ne (by omega), hc_64 h.len hj]
  · intro j hj; rw [List.getElem?_set_ne (by omega), hc_b h.len hj]
  · rw [List.getElem?_set_self (by rw [length_hcells h.len]; omega)]
end
section
variable {P : Program} {ops : Array Oper} {rest : List Oper} {o : Oper} {a : Act} {w : World} {Q : Exit → Act → World → Prop} {B : Nat} {ks : List Value} {v32 v64 blk : Nat → Nat} {size : Nat}
theorem getElem?_mid {α : Type} (L cs : List α) (off j : Nat) (h : off + cs.length ≤ L.length) : (L.take off ++ cs ++ L.drop (off + cs.length))[j]? = if off ≤ j ∧ j < off + cs.length then cs[j - off]? else L[j]? := by
  rw [List.append_assoc]
  have e1 : (L.take off).length = off := by rw [List.length_take]; omega
  by_cases h1 : j < off
  · rw [List.getElem?_append_left (by omega), List.getElem?_take, if_pos h1, if_neg (by omega)]
  · rw [List.getElem?_append_right (by omega), e1]
    by_cases h2 : j < off + cs.length
    · rw [List.getElem?_append_left (by omega), if_pos (by omega)]
    · rw [List.getElem?_append_right (by omega), if_neg (by omega), List.getElem?_drop]
      congr 1; omega
theorem wpList_store_v32 (hgd : o.guard = none) (ty : TypeId) (x y : Operand) (ho : o.op = .store ty x y) {f : Nat → Nat}
    (hx : a.eval x = .pointer (some ⟨B, 16, none⟩)) (hy : a.eval y = .agg (rowOf .u32 8 f).toArray) (hg : HBlk w B ks v32 v64 blk size) (hi : (P.info? ty).map (·.size) = some 8)
    (h : ∀ w', HBlk w' B ks f v64 blk size → w.grownBy w' (some B) → w'.heap.size = w.heap.size → wpList P ops Q rest (a.put o.dst undef) w') : wpList P ops Q (o :: rest) a w := by
  have hl := length_hcells (v32 := v32) (v64 := v64) (blk := blk) (size := size) hg.len
  refine wpList_store_blk hgd ty x y ho B 16 _ hx hy _ 249 hg.at_ (by simp only [List.size_toArray, length_rowOf, hl]; omega) (by simpa [length_rowOf] using hi) (fun v hv => oneCell_nums .u32 _ v (by simpa [rowOf] using hv))
    fun w' h1 h2 h3 => h w' ⟨hg.len, hg.one, ?_⟩ h2 h3
  rw [h1]
  refine congrArg (fun l : List Value => some (Obj.cells l.toArray 249 (0, 0))) ?_
  have hm := fun j => getElem?_mid (hcells ks v32 v64 blk size) (rowOf .u32 8 f) 16 j (by rw [length_rowOf, hl]; omega)
  simp only [length_rowOf] at hm
  simp only [List.size_toArray, length_rowOf]
  refine hcells_ext hg.len (by simp [length_rowOf, hl]) ?_ ?_ ?_ ?_ ?_
  · intro j hj; rw [hm, if_neg (by omega), hc_k hg.len hj]
  · intro j hj; rw [hm, if_pos (by omega), Nat.add_sub_cancel_left, getElem?_rowOf _ _ _ _ hj]
  · intro j hj; rw [hm, if_neg (by omega), hc_64 hg.len hj]
  · intro j hj; rw [hm, if_neg (by omega), hc_b hg.len hj]
  · rw [hm, if_neg (by omega), hc_s hg.len]
theorem wpList_store_v64 (hgd : o.guard = none) (ty : TypeId) (x y : Operand) (ho : o.op = .store ty x y) {f : Nat → Nat}
    (hx : a.eval x = .pointer (some ⟨B, 24, none⟩)) (hy : a.eval y = .agg (rowOf .u64 8 f).toArray) (hg : HBlk w B ks v32 v64 blk size) (hi : (P.info? ty).map (·.size) = some 8)
    (h : ∀ w', HBlk w' B ks v32 f blk size → w.grownBy w' (some B) → w'.heap.size = w.heap.size → wpList P ops Q rest (a.put o.dst undef) w') : wpList P ops Q (o :: rest) a w := by
  have hl := length_hcells (v32 := v32) (v64 := v64) (blk := blk) (size := size) hg.len
  refine wpList_store_blk hgd ty x y ho B 24 _ hx hy _ 249 hg.at_ (by simp only [List.size_toArray, length_rowOf, hl]; omega) (by simpa [length_rowOf] using hi) (fun v hv => oneCell_nums .u64 _ v (by simpa [rowOf] using hv))
    fun w' h1 h2 h3 => h w' ⟨hg.len, hg.one, ?_⟩ h2 h3
  rw [h1]
  refine congrArg (fun l : List Value => some (Obj.cells l.toArray 249 (0, 0))) ?_
  have hm := fun j => getElem?_mid (hcells ks v32 v64 blk size) (rowOf .u64 8 f) 24 j (by rw [length_rowOf, hl]; omega)
  simp only [length_rowOf] at hm
  simp only [List.size_toArray, length_rowOf]
  refine hcells_ext hg.len (by simp [length_rowOf, hl]) ?_ ?_ ?_ ?_ ?_
  · intro j hj; rw [hm, if_neg (by omega), hc_k hg.len hj]
  · intro j hj; rw [hm, if_neg (by omega), hc_32 hg.len hj]
  · intro j hj; rw [hm, if_pos (by omega), Nat.add_sub_cancel_left, getElem?_rowOf _ _ _ _ hj]
  · intro j hj; rw [hm, if_neg (by omega), hc_b hg.len hj]
  · rw [hm, if_neg (by omega), hc_s hg.len]
/-- copy(h.block[r:..], s): n bytes of s go over. -/
theorem wpList_copy_blk (hgd : o.guard = none) (d s : Operand) (dT sT : TypeId) (ho : o.op = .call { callee := .builtin .copy, args := #[d, s], argTypes := #[dT, sT] }) {elem : TypeId} (hu : P.underlying dT = some (.slice elem)) (hsz : (P.info? elem).map (·.size) = some 1)
    (r dLen dCap : Nat) (str : ByteArray) (hd : a.eval d = .slice (some ⟨B, 32 + r, none⟩) dLen dCap) (hs : a.eval s = .string str) (hg : HBlk w B ks v32 v64 blk size) (n : Nat) (hn : n = Nat.min str.size dLen) (hfit : r + n ≤ 128)
    (h : ∀ w', HBlk w' B ks v32 v64 (fun j => if r ≤ j ∧ j < r + n then (bs str).getD (j - r) 0 else blk j) size → w.grownBy w' (some B) → w'.heap.size = w.heap.size → wpList P ops Q rest (a.put o.dst (goInt n)) w') : wpList P ops Q (o :: rest) a w := by
  have hl := length_hcells (v32 := v32) (v64 := v64) (blk := blk) (size := size) hg.len
  have hnl : ((nums .u8 (bs str)).take n).length = n := by rw [List.length_take, length_nums, length_bs]; have : n ≤ str.size := hn ▸ Nat.min_le_left _ _; omega
  have hst := run_storeCells_at P B (32 + r) 249 ((nums .u8 (bs str)).take n) 0 (hcells ks v32 v64 blk size).toArray w hg.at_ (by rw [hnl, List.size_toArray, hl]; omega) (fun v hv => oneCell_nums .u8 _ v (List.mem_of_mem_take hv))
  rw [hnl] at hst
  simp only [Nat.add_zero] at hst
  have htk : List.take n (List.map (fun b : UInt8 => Value.int IntKind.u8 (b.toNat : Int)) str.data.toList) = (nums .u8 (bs str)).take n := by simp only [nums, bs, List.map_map]; rfl
  refine wpList_run hgd _ (w.setRow B ((hcells ks v32 v64 blk size).toArray.toList.take (32 + r) ++ (nums .u8 (bs str)).take n ++ (hcells ks v32 v64 blk size).toArray.toList.drop (32 + r + n)).toArray) ?_ (h _ ⟨hg.len, hg.one, ?_⟩ ⟨rfl, rfl, rfl, by simp, fun k _ hk => setRow_other w B k _ (fun e => hk (by rw [e]))⟩ (by simp))
  · cases hq : P.info? elem with
    | none => simp [hq] at hsz
    | some i0 =>
      have hi0 : i0.size = 1 := by simpa [hq] using hsz
      have hrun : (Builtin.copy_ #[dT, sT] o.type #[.slice (some ⟨B, 32 + r, none⟩) dLen dCap, .string str]).run P w = .ok (goInt n) (w.setRow B ((hcells ks v32 v64 blk size).toArray.toList.take (32 + r) ++ (nums .u8 (bs str)).take n ++ (hcells ks v32 v64 blk size).toArray.toList.drop (32 + r + n)).toArray) := by
        simp [Builtin.copy_, run_underlying hu, Builtin.lenOf, Builtin.firstCells, sizeOf, typeInfo, hq]
        rw [← hn, htk, hst]
        simp [Result.andThen]
      unfold execOp
      simp only [ho, resolve, invoke, builtin, Sem.run_bind, Sem.run_pure, Result.andThen_ok, List.map_toArray, List.map_cons, List.map_nil, hd, hs, hrun]
  · rw [setRow_heap w B _ _ 249 _ hg.at_]
    refine congrArg (fun l : List Value => some (Obj.cells l.toArray 249 (0, 0))) ?_
    have hm := fun j => getElem?_mid (hcells ks v32 v64 blk size) ((nums .u8 (bs str)).take n) (32 + r) j (by rw [hnl, hl]; omega)
    simp only [hnl] at hm
    refine hcells_ext hg.len (by simp [hl, length_nums, length_bs]; have : n ≤ str.size := hn ▸ Nat.min_le_left _ _; omega) ?_ ?_ ?_ ?_ ?_
    · intro j hj; rw [hm, if_neg (by omega), hc_k hg.len hj]
    · intro j hj; rw [hm, if_neg (by omega), hc_32 hg.len hj]
    · intro j hj; rw [hm, if_neg (by omega), hc_64 hg.len hj]
    · intro j hj
      rw [hm]
      by_cases c : r ≤ j ∧ j < r + n
      · rw [if_pos (by omega), if_pos c, show 32 + j - (32 + r) = j - r by omega, List.getElem?_take, if_pos (by omega)]
        have : j - r < (bs str).length := by rw [length_bs]; have : n ≤ str.size := hn ▸ Nat.min_le_left _ _; omega
        simp [nums, this]
      · rw [if_neg (by omega), if_neg c, hc_b hg.len hj]
    · rw [hm, if_neg (by omega), hc_s hg.len]
end
/-- x[lo:hi] of an array behind an address. -/
theorem run_sliceAt_array {P : Program} {T e : TypeId} {N B off : Nat} (hu : P.underlying T = some (.array N e)) (hi : (P.info? e).map (·.size) = some 1) (lo hi' : Nat) (h1 : lo ≤ hi') (h2 : hi' ≤ N) (h3 : lo < N) (w : World) :
    (Instr.sliceAt T (.pointer (some ⟨B, off, none⟩)) (some (.int .i64 (lo : Int))) (some (.int .i64 (hi' : Int))) none).run P w = .ok (.slice (some ⟨B, off + lo, none⟩) (hi' - lo) (N - lo)) w := by
  cases hq : P.info? e with
  | none => simp [hq] at hi
  | some i0 =>
    have hs : i0.size = 1 := by simpa [hq] using hi
    have hadd : (⟨B, off, none⟩ : Addr).add lo = ⟨B, off + lo, none⟩ := Addr.add_mid B off lo
    have hne : ¬ N = lo := by omega
    have h2' : (hi' : Int) ≤ (N : Int) := by omega
    have h1' : (lo : Int) ≤ (hi' : Int) := by omega
    simp [Instr.sliceAt, run_underlying hu, Instr.sureAddr, Instr.sliceBounds, Instr.sliceBound, asIntOf, sizeOf, typeInfo, hq, hs, hadd, hne, h1, h2]
end Go.Proofs.YtilpbjcbffbjeaaGreatDoor
namespace Go.Proofs.YtilpbjcbffbjeaaGreatDoor
set_option linter.unusedVariables false
open Go.RowKit
theorem zeroCells_one (z : Value) (n : Nat) : (Builtin.zeroCells #[z] n).toList = List.replicate n z := by
  refine List.ext_getElem? fun j => ?_
  by_cases h : j < n
  · simp [Builtin.zeroCells, h, Nat.mod_one]
  · rw [List.getElem?_eq_none (by simp [Builtin.zeroCells]; omega), List.getElem?_eq_none (by simp; omega)]
theorem nums_zeros (k : IntKind) (n : Nat) : nums k (List.replicate n 0) = List.replicate n (.int k 0) := by simp [nums]
section
variable {P : Program} {w : World} {base : Nat} {e : TypeId} {v : Value} {l : List Nat}
theorem run_append_zeros (t u ty : TypeId) (ku : IntKind) (ht : P.underlying t = some (.slice e)) (hu : P.underlying u = some (.int ku)) (hi : (P.info? e).map (fun i => (i.zero, i.size, i.bytes)) = some (some (.int .u8 0), 1, 1))
    (hown : Owns w base e v l) (h0 : 0 < l.length) (n : Nat) (hsz : l.length + n ≤ 140737488355328) (hbase : base ≤ w.heap.size) :
    ∃ v' w', (Builtin.append_ #[t, u] ty #[v, .int .i64 (n : Int)]).run P w = .ok v' w' ∧ Owns w' base e v' (l ++ List.replicate n 0) ∧ w.grownBy w' v.ownBlock ∧ (v'.ownBlock = v.ownBlock ∨ v'.ownBlock = some w.heap.size) := by
  obtain ⟨i0, hi0, hz0, hz1, hz2⟩ := info_parts hi
  have hown' := hown
  rcases hown.2 with ⟨_, hn⟩ | ⟨g, cap, cur, rfl, hb, hg, hnc, hcm, hcs, htake⟩
  · omega
  have hwn : IntKind.i64.wrap (n : Int) = n := IntWalk.i64_in _ (by omega)
  have hn0 : ¬ ((n : Int) < 0) := by omega
  have hn48 : ¬ (281474976710656 < (n : Int)) := by omega
  have hall : nums .u8 (l ++ List.replicate n 0) = nums .u8 l ++ List.replicate n (Value.int .u8 0) := by rw [← nums_zeros]; simp [nums]
  by_cases hroom : l.length + n ≤ cap
  · have hst := run_storeCells_at P g l.length e (List.replicate n (Value.int .u8 0)) 0 cur w hg (by rw [List.length_replicate]; omega) (by intro x hx; rw [(List.mem_replicate.1 hx).2]; rfl)
    simp only [Nat.add_zero, List.length_replicate] at hst
    have hadd : (⟨g, 0, none⟩ : Addr).add l.length = ⟨g, l.length, none⟩ := by rw [Addr.add_mid]; simp
    refine ⟨.slice (some ⟨g, 0, none⟩) (l.length + n) cap, w.setRow g (cur.toList.take l.length ++ List.replicate n (Value.int .u8 0) ++ cur.toList.drop (l.length + n)).toArray, ?_, ⟨?_, .inr ⟨g, cap, _, by simp, hb, setRow_heap w g cur _ e _ hg, by simp; omega, hcm, ?_, ?_⟩⟩,
      ⟨rfl, rfl, rfl, by simp, fun k _ hk => setRow_other w g k _ (fun e => hk (by simp [Value.ownBlock, e]))⟩, .inl rfl⟩
    · by_cases hz : n = 0
      · subst hz
        have hw0 : IntKind.i64.wrap 0 = 0 := by decide
        have hst0 : (storeCells ⟨g, l.length, none⟩ []).run P w = .ok () (w.setRow g cur) := by simpa using hst
        simp [hw0, Builtin.append_, run_underlying ht, run_underlying hu, sizeOf, typeInfo, hi0, hz1, hz2, asInt, asIntOf, hnc, hadd, hst0]
      · have hzc : Builtin.zeroCells (Value.int .u8 0).cells n = (List.replicate n (Value.int .u8 0)).toArray := by
          apply Array.ext'; rw [List.toList_toArray]; exact zeroCells_one _ _
        simp [Builtin.append_, run_underlying ht, run_underlying hu, sizeOf, typeInfo, zeroValue, hi0, hz0, hz1, hz2, asInt, asIntOf, hwn, hn0, hn48, hroom, hadd, hz, hzc, hst]
    · simp [nums]
    · simp only [List.size_toArray, List.length_append, List.length_take, List.length_drop, Array.length_toList, List.length_replicate]; omega
    · have hh : cur.toList.take l.length = nums .u8 l := by simpa using htake
      have hln : (nums .u8 l).length = l.length := length_nums _ _
      rw [hall, hh, List.toList_toArray, List.length_append, List.length_replicate, Nat.mul_one]
      exact List.take_left' (by rw [List.length_append, List.length_replicate, hln])
  · have hz : ¬ n = 0 := by omega
    have hnr : ¬ (l.length + n ≤ cap) := hroom
    have holds : ∀ j u, (nums .u8 l)[j]? = some u → w.drew.cell? ((⟨g, 0, none⟩ : Addr).add j) = some u := World.ownsRow.cells (g := g) hown' rfl
    have hfo := run_firstCells_some (P := P) w.drew 1 l.length ⟨g, 0, none⟩ l.length cap (nums .u8 l) (by simp [nums]) holds
    have h63' : ¬ (9223372036854775807 < ((l.length : Int) + (n : Int))) := by omega
    have hfit := growslice_fits (need := l.length + n) (old := cap) (bytes := 1) (by omega) (by omega)
    have h48' : ¬ (281474976710656 < Builtin.nextslicecap (l.length + n) cap) := by omega
    have hzc : Builtin.zeroCells #[Value.int .u8 0] n = (List.replicate n (Value.int .u8 0)).toArray := by
      apply Array.ext'; rw [List.toList_toArray]; exact zeroCells_one _ _
    have hge := grownCap_ge w (l.length + n) cap e
    have hcm' : grownCap w (l.length + n) cap e ≤ maxLen := grownCap_le_maxLen w (l.length + n) cap e (by unfold maxLen; omega)
    refine ⟨.slice (some ⟨w.heap.size, 0, none⟩) (l.length + n) (grownCap w (l.length + n) cap e), w.drew.alloc (.cells ((nums .u8 l ++ List.replicate n (Value.int .u8 0)).toArray ++ Builtin.zeroCells #[Value.int .u8 0] (grownCap w (l.length + n) cap e - (l.length + n))) e), ?_,
      ⟨?_, .inr ⟨w.heap.size, grownCap w (l.length + n) cap e, _, by simp, hbase, heap_alloc_new w.drew _, by simpa using hge, hcm', ?_, ?_⟩⟩, ⟨rfl, rfl, rfl, by simp, fun k hk _ => Below.heap_alloc w.drew _ k hk⟩, .inr rfl⟩
    · simp [Builtin.append_, run_underlying ht, run_underlying hu, sizeOf, typeInfo, zeroValue, hi0, hz0, hz1, hz2, asInt, asIntOf, hwn, hn0, hn48, hnr, hz, h63', h48', Question.forced, newRow, grownCap, Value.cells, hzc, hfo]
      refine congrArg (fun c => w.drew.alloc (Obj.cells c e)) ?_
      rw [← Array.append_assoc]
      congr 1
      apply Array.ext'
      simp
    · simp [nums]
    · have := zeroCells_one (.int .u8 0) (grownCap w (l.length + n) cap e - (l.length + n))
      have h2 : (Builtin.zeroCells #[Value.int .u8 0] (grownCap w (l.length + n) cap e - (l.length + n))).size = grownCap w (l.length + n) cap e - (l.length + n) := by simp [Builtin.zeroCells]
      simp only [Array.size_append, List.size_toArray, List.length_append, length_nums, List.length_replicate, h2]; omega
    · rw [hall, Array.toList_append, List.toList_toArray, List.length_append, List.length_replicate, Nat.mul_one]
      exact List.take_left' (by rw [List.length_append, List.length_replicate, length_nums])
theorem wpList_append_zeros {ops : Array Oper} {rest : List Oper} {o : Oper} {a : Act} {Q : Exit → Act → World → Prop} (hgd : o.guard = none) (s x : Operand) (t u : TypeId) (ku : IntKind) (ho : o.op = .call { callee := .builtin .append, args := #[s, x], argTypes := #[t, u] })
    (ht : P.underlying t = some (.slice e)) (hu : P.underlying u = some (.int ku)) (hi : (P.info? e).map (fun i => (i.zero, i.size, i.bytes)) = some (some (.int .u8 0), 1, 1))
    (hs : a.eval s = v) (hown : Owns w base e v l) (h0 : 0 < l.length) (n : Nat) (hx : a.eval x = .int .i64 (n : Int)) (hsz : l.length + n ≤ 140737488355328) (hbase : base ≤ w.heap.size)
    (h : ∀ v' w', Owns w' base e v' (l ++ List.replicate n 0) → w.grownBy w' v.ownBlock → (v'.ownBlock = v.ownBlock ∨ v'.ownBlock = some w.heap.size) → wpList P ops Q rest (a.put o.dst v') w') : wpList P ops Q (o :: rest) a w := by
  obtain ⟨v', w', hr, h1, h2, h3⟩ := run_append_zeros (P := P) t u o.type ku ht hu hi hown h0 n hsz hbase
  refine wpList_run hgd v' w' ?_ (h v' w' h1 h2 h3)
  unfold execOp
  simp only [ho, resolve, invoke, builtin, Sem.run_bind, Sem.run_pure, Result.andThen_ok, List.map_toArray, List.map_cons, List.map_nil, hs, hx, hr]
end
end Go.Proofs.YtilpbjcbffbjeaaGreatDoor
