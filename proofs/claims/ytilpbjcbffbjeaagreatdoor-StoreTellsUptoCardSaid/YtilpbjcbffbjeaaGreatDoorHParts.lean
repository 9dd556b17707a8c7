/- Plain facts on words, the schedule and the rounds, for the loops of 'next'. No program in sight. -/
import Derived.Test.YtilpbjcbffbjeaaGreatDoorHSpec
namespace Go.Proofs.YtilpbjcbffbjeaaGreatDoor.Sha

theorem getD_out {l : List Nat} {j : Nat} (h : l.length ≤ j) : l.getD j 0 = 0 := by rw [List.getD_eq_getElem?_getD, List.getElem?_eq_none h]; rfl
theorem getD_left {a b : List Nat} {j : Nat} (h : j < a.length) : (a ++ b).getD j 0 = a.getD j 0 := by
  rw [List.getD_eq_getElem?_getD, List.getD_eq_getElem?_getD, List.getElem?_append_left h]
theorem getD_right {a b : List Nat} {j : Nat} (h : a.length ≤ j) : (a ++ b).getD j 0 = b.getD (j - a.length) 0 := by
  rw [List.getD_eq_getElem?_getD, List.getD_eq_getElem?_getD, List.getElem?_append_right h]
theorem add_lt (w x y : Nat) : add w x y < 2 ^ w := Nat.mod_lt _ (Nat.two_pow_pos w)
theorem wpart_snoc (w : Nat) (l : List Nat) (c : Nat) : wpart w (l ++ [c]) = (wpart w l * 256 % 2 ^ w) ||| c := by simp [wpart]
theorem wpart_lt (w : Nat) (l : List Nat) (h : ∀ c ∈ l, c < 2 ^ w) : wpart w l < 2 ^ w := by
  have : ∀ (l : List Nat) (a : Nat), a < 2 ^ w → (∀ c ∈ l, c < 2 ^ w) → l.foldl (fun acc c => (acc * 256 % 2 ^ w) ||| c) a < 2 ^ w := by
    intro l
    induction l with
    | nil => intro a ha _; exact ha
    | cons c l ih => intro a ha h; exact ih _ (Nat.or_lt_two_pow (Nat.mod_lt _ (Nat.two_pow_pos w)) (h c (by simp))) (fun c hc => h c (by simp [hc]))
  exact this l 0 (Nat.two_pow_pos w) h

/-- w behind i whole words and m bytes of the next one -/
def wF (k : Kind) (bl : List Nat) (i m : Nat) (j : Nat) : Nat := if j < i then wordAt k bl j else if j = i then wpart k.w ((bl.drop (k.w / 8 * i)).take m) else 0
theorem wF_start (k : Kind) (bl : List Nat) (j : Nat) : wF k bl 0 0 j = 0 := by
  unfold wF
  split
  · omega
  · split <;> simp [wpart]
theorem wF_step (k : Kind) (bl : List Nat) (i m : Nat) (h : k.w / 8 * i + m < bl.length) (j : Nat) :
    wF k bl i (m + 1) j = if j = i then (wF k bl i m i * 256 % 2 ^ k.w) ||| bl.getD (k.w / 8 * i + m) 0 else wF k bl i m j := by
  unfold wF
  have hm : m < (bl.drop (k.w / 8 * i)).length := by simp; omega
  by_cases e : j = i
  · subst e
    simp only [Nat.lt_irrefl, if_false, if_true]
    rw [List.take_succ_eq_append_getElem hm, wpart_snoc]
    simp [List.getElem_drop, h]
  · simp [e]
theorem wF_whole (k : Kind) (bl : List Nat) (i : Nat) (j : Nat) : wF k bl i (k.w / 8) j = wF k bl (i + 1) 0 j := by
  unfold wF
  by_cases h : j < i
  · rw [if_pos h, if_pos (by omega)]
  · by_cases e : j = i
    · subst e; rw [if_neg h, if_pos rfl, if_pos (by omega)]; rfl
    · rw [if_neg h, if_neg e, if_neg (by omega)]
      split <;> simp [wpart]
theorem wF_lt (k : Kind) (bl : List Nat) (i m j : Nat) (hb : ∀ c ∈ bl, c < 2 ^ k.w) : wF k bl i m j < 2 ^ k.w := by
  unfold wF
  split
  · exact wpart_lt _ _ fun c hc => hb c (List.mem_of_mem_drop (List.mem_of_mem_take hc))
  · split
    · exact wpart_lt _ _ fun c hc => hb c (List.mem_of_mem_drop (List.mem_of_mem_take hc))
    · exact Nat.two_pow_pos _

def gF (k : Kind) (bl : List Nat) (n j : Nat) : Nat := (grow k (words k bl) n).getD j 0
theorem length_words (k : Kind) (bl : List Nat) : (words k bl).length = 16 := by simp [words]
theorem length_grow (k : Kind) (l : List Nat) (n : Nat) : (grow k l n).length = l.length + n := by
  induction n with
  | zero => rfl
  | succ n ih => simp [grow, ih]; omega
theorem wF_gF (k : Kind) (bl : List Nat) (j : Nat) : wF k bl 16 0 j = gF k bl 0 j := by
  unfold wF gF grow words
  by_cases h : j < 16
  · rw [if_pos h]; simp [h]
  · rw [if_neg h, getD_out (by simp; omega)]
    split <;> simp [wpart]
theorem gF_step (k : Kind) (bl : List Nat) (n j : Nat) : gF k bl (n + 1) j = if j = 16 + n then
    add k.w (add k.w (add k.w (gF k bl n (16 + n - 16)) (mix k.w (gF k bl n (16 + n - 15)) k.a.1 k.a.2.1 k.a.2.2 true)) (gF k bl n (16 + n - 7))) (mix k.w (gF k bl n (16 + n - 2)) k.b.1 k.b.2.1 k.b.2.2 true)
    else gF k bl n j := by
  have hl : (grow k (words k bl) n).length = 16 + n := by rw [length_grow, length_words]
  unfold gF
  rw [grow]
  by_cases e : j = 16 + n
  · subst e
    rw [if_pos rfl, getD_right (by omega), hl]
    simp [sched]
  · rw [if_neg e]
    by_cases h : j < 16 + n
    · rw [getD_left (by omega)]
    · rw [getD_out (by simp; omega), getD_out (by omega)]
theorem gF_lt (k : Kind) (bl : List Nat) (hb : ∀ c ∈ bl, c < 2 ^ k.w) (n : Nat) : ∀ j, gF k bl n j < 2 ^ k.w := by
  induction n with
  | zero => intro j; rw [← wF_gF]; exact wF_lt k bl 16 0 j hb
  | succ n ih =>
    intro j
    rw [gF_step]
    split
    · exact add_lt _ _ _
    · exact ih j

def rF (k : Kind) (ws s : List Nat) (n j : Nat) : Nat := (rounds k ws s n).getD j 0
def tF (k : Kind) (v : Nat → Nat) (ki wi : Nat) : Nat :=
  add k.w (add k.w (add k.w (add k.w (v 7) (mix k.w (v 4) k.c.1 k.c.2.1 k.c.2.2 false)) (((v 4) &&& (v 5)) ^^^ ((2 ^ k.w - 1 - v 4) &&& (v 6)))) ki) wi
def uF (k : Kind) (v : Nat → Nat) : Nat :=
  add k.w (mix k.w (v 0) k.d.1 k.d.2.1 k.d.2.2 false) (((v 0 &&& v 1) ^^^ (v 0 &&& v 2)) ^^^ (v 1 &&& v 2))
/-- one round, on the eight numbers -/
def nF (k : Kind) (v : Nat → Nat) (t u : Nat) (j : Nat) : Nat := if j = 0 then add k.w t u else if j = 4 then add k.w (v 3) t else v (j - 1)
theorem rF_step (k : Kind) (ws s : List Nat) (n j : Nat) (hj : j < 8) :
    rF k ws s (n + 1) j = nF k (rF k ws s n) (tF k (rF k ws s n) (k.keys.getD n 0) (ws.getD n 0)) (uF k (rF k ws s n)) j := by
  unfold rF nF tF uF
  rw [rounds]
  generalize rounds k ws s n = v
  match j, hj with
  | 0, _ => rfl
  | 1, _ => rfl
  | 2, _ => rfl
  | 3, _ => rfl
  | 4, _ => rfl
  | 5, _ => rfl
  | 6, _ => rfl
  | 7, _ => rfl
theorem tF_lt (k : Kind) (v : Nat → Nat) (ki wi : Nat) : tF k v ki wi < 2 ^ k.w := add_lt _ _ _
theorem uF_lt (k : Kind) (v : Nat → Nat) : uF k v < 2 ^ k.w := add_lt _ _ _
theorem rF_lt (k : Kind) (ws s : List Nat) (hs : ∀ j, s.getD j 0 < 2 ^ k.w) (n : Nat) : ∀ j, j < 8 → rF k ws s n j < 2 ^ k.w := by
  induction n with
  | zero => intro j _; exact hs j
  | succ n ih =>
    intro j hj
    rw [rF_step k ws s n j hj]
    unfold nF
    split
    · exact add_lt _ _ _
    · split
      · exact add_lt _ _ _
      · exact ih _ (by omega)
theorem next_getD (k : Kind) (s bl : List Nat) (j : Nat) (hj : j < 8) :
    (next k s bl).getD j 0 = add k.w (rF k (grow k (words k bl) (k.keys.length - 16)) s k.keys.length j) (s.getD j 0) := by
  unfold next rF
  simp [hj]
theorem length_next (k : Kind) (s bl : List Nat) : (next k s bl).length = 8 := by simp [next]
theorem next_lt (k : Kind) (s bl : List Nat) (j : Nat) : (next k s bl).getD j 0 < 2 ^ k.w := by
  by_cases hj : j < 8
  · rw [next_getD k s bl j hj]; exact add_lt _ _ _
  · rw [getD_out (by rw [length_next]; omega)]; exact Nat.two_pow_pos _
end Go.Proofs.YtilpbjcbffbjeaaGreatDoor.Sha
