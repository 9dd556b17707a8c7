/- Records of the log in plain terms: a number in so many bytes, a record's bytes, what stands whole at a place. No program in sight.
   What a log's file says, in plain terms: the records that stand whole one behind another, numbered from one. No program in sight.
   What a crash leaves of records that were written, not synced: a beginning of them. No program in sight. -/
import Derived.Test.YtilpbjcbffbjeaaGreatDoorPkA
namespace Go.Proofs.YtilpbjcbffbjeaaGreatDoor
set_option linter.unusedVariables false
/-- A number in k bytes, the highest first. -/
def num (n : Nat) : Nat → List Nat
  | 0 => []
  | k + 1 => (n / 256 ^ k % 256) :: num n k
theorem num_succ (n k : Nat) : num n (k + 1) = (n / 256 ^ k % 256) :: num n k := rfl
theorem length_num (n k : Nat) : (num n k).length = k := by induction k with | zero => rfl | succ k ih => rw [num_succ, List.length_cons, ih]
theorem num_lt (n k : Nat) : ∀ c ∈ num n k, c < 256 := by
  induction k with
  | zero => intro c hc; cases hc
  | succ k ih =>
    intro c hc
    rw [num_succ] at hc
    rcases List.mem_cons.1 hc with h | h
    · subst h; omega
    · exact ih c h
/-- What bytes say, behind a number. -/
def valF (a : Nat) (l : List Nat) : Nat := l.foldl (fun a c => a * 256 + c) a
def val (l : List Nat) : Nat := valF 0 l
theorem valF_cons (a c : Nat) (l : List Nat) : valF a (c :: l) = valF (a * 256 + c) l := rfl
theorem valF_snoc (a c : Nat) (l : List Nat) : valF a (l ++ [c]) = valF a l * 256 + c := by unfold valF; rw [List.foldl_append]; rfl
theorem valF_eq (l : List Nat) : ∀ a, valF a l = a * 256 ^ l.length + valF 0 l := by
  induction l with
  | nil => intro a; simp [valF]
  | cons c l ih =>
    intro a
    rw [valF_cons, valF_cons, ih, ih (0 * 256 + c), List.length_cons, Nat.pow_succ, Nat.zero_mul, Nat.zero_add, Nat.add_mul]
    rw [show a * (256 ^ l.length * 256) = a * 256 * 256 ^ l.length by rw [Nat.mul_comm (256 ^ l.length), Nat.mul_assoc]]
    omega
theorem val_lt (l : List Nat) (h : ∀ c ∈ l, c < 256) : val l < 256 ^ l.length := by
  unfold val
  induction l with
  | nil => simp [valF]
  | cons c l ih =>
    have h1 := ih (fun x hx => h x (List.mem_cons_of_mem _ hx))
    have h2 := h c List.mem_cons_self
    rw [valF_cons, valF_eq, List.length_cons, Nat.pow_succ]
    have h3 : (0 * 256 + c) * 256 ^ l.length ≤ 255 * 256 ^ l.length := Nat.mul_le_mul_right _ (by omega)
    omega
theorem valF_num (n : Nat) : ∀ k a, valF a (num n k) = a * 256 ^ k + n % 256 ^ k := by
  intro k
  induction k with
  | zero => intro a; simp [num, valF, Nat.mod_one]
  | succ k ih =>
    intro a
    rw [num_succ, valF_cons, ih, Nat.pow_succ, Nat.mod_mul, Nat.add_mul]
    rw [show a * (256 ^ k * 256) = a * 256 * 256 ^ k by rw [Nat.mul_comm (256 ^ k), Nat.mul_assoc], Nat.mul_comm (256 ^ k) (n / 256 ^ k % 256)]
    omega
theorem val_num (n k : Nat) (h : n < 256 ^ k) : val (num n k) = n := by
  unfold val; rw [valF_num, Nat.zero_mul, Nat.zero_add, Nat.mod_eq_of_lt h]
theorem num_valF (l : List Nat) (h : ∀ c ∈ l, c < 256) : ∀ a, num (valF a l) l.length = l := by
  induction l with
  | nil => intro a; rfl
  | cons c l ih =>
    intro a
    have h1 : ∀ x ∈ l, x < 256 := fun x hx => h x (List.mem_cons_of_mem _ hx)
    have h2 := h c List.mem_cons_self
    have h3 := val_lt l h1
    unfold val at h3
    rw [List.length_cons, num_succ, valF_cons, ih h1]
    congr 1
    rw [valF_eq, Nat.mul_comm, Nat.mul_add_div (by exact Nat.pos_of_ne_zero (by intro h0; omega)), Nat.div_eq_of_lt h3]
    omega
theorem val_inj {l m : List Nat} (hl : ∀ c ∈ l, c < 256) (hm : ∀ c ∈ m, c < 256) (hn : l.length = m.length) (h : val l = val m) : l = m := by
  have h1 := num_valF l hl 0
  have h2 := num_valF m hm 0
  unfold val at h
  rw [← h1, ← h2, h, hn]
theorem val_zeros (k : Nat) : val (List.replicate k 0) = 0 := by
  unfold val
  induction k with
  | zero => rfl
  | succ k ih => rw [List.replicate_succ, valF_cons, ih]
/-- A record's bytes. -/
def recL (n : Nat) (p : List Nat) : List Nat := num p.length 3 ++ (num n 8 ++ (p ++ num n 8))
def recS (n : Nat) (p : ByteArray) : ByteArray := strOf (recL n (bs p))
theorem length_recL (n : Nat) (p : List Nat) : (recL n p).length = 19 + p.length := by
  unfold recL; simp only [List.length_append, length_num]; omega
theorem recL_lt (n : Nat) (p : List Nat) (h : ∀ c ∈ p, c < 256) : ∀ c ∈ recL n p, c < 256 := by
  intro c hc
  unfold recL at hc
  rcases List.mem_append.1 hc with hc | hc
  · exact num_lt _ _ c hc
  rcases List.mem_append.1 hc with hc | hc
  · exact num_lt _ _ c hc
  rcases List.mem_append.1 hc with hc | hc
  · exact h c hc
  · exact num_lt _ _ c hc
theorem bs_recS (n : Nat) (p : ByteArray) : bs (recS n p) = recL n (bs p) := bs_strOf _ (recL_lt n _ (bs_lt p))
theorem size_recS (n : Nat) (p : ByteArray) : (recS n p).size = 19 + p.size := by unfold recS; rw [size_strOf, length_recL, length_bs]
/-- What stands whole at the head of bytes: its number, its payload. -/
def whole (m : List Nat) : Option (Nat × List Nat) :=
  if m.length < 19 then none
  else if 16384 < val (m.take 3) ∨ m.length < 19 + val (m.take 3) then none
  else if val ((m.drop 3).take 8) < 1 ∨ 1099511627776 < val ((m.drop 3).take 8) ∨ (m.drop 3).take 8 ≠ (m.drop (11 + val (m.take 3))).take 8 then none
  else some (val ((m.drop 3).take 8), (m.drop 11).take (val (m.take 3)))
theorem take_append_of_len {a b : List Nat} {n : Nat} (h : a.length = n) : (a ++ b).take n = a := List.take_left' h
theorem drop_append_of_len {a b : List Nat} {n : Nat} (h : a.length = n) : (a ++ b).drop n = b := List.drop_left' h
theorem parts_recL (n : Nat) (p B : List Nat) : (recL n p ++ B).take 3 = num p.length 3 ∧ (recL n p ++ B).drop 3 = num n 8 ++ (p ++ (num n 8 ++ B)) ∧ (recL n p ++ B).drop 11 = p ++ (num n 8 ++ B) ∧ (recL n p ++ B).drop (11 + p.length) = num n 8 ++ B := by
  have e : recL n p ++ B = num p.length 3 ++ (num n 8 ++ (p ++ (num n 8 ++ B))) := by unfold recL; simp only [List.append_assoc]
  have h3 := length_num p.length 3
  have h8 := length_num n 8
  have e3 : (recL n p ++ B).drop 3 = num n 8 ++ (p ++ (num n 8 ++ B)) := by rw [e, drop_append_of_len h3]
  have e11 : (recL n p ++ B).drop 11 = p ++ (num n 8 ++ B) := by
    rw [show 11 = 3 + 8 from rfl, ← List.drop_drop, e3, drop_append_of_len h8]
  refine ⟨by rw [e, take_append_of_len h3], e3, e11, ?_⟩
  rw [← List.drop_drop, e11, drop_append_of_len rfl]
/-- What was laid is read. -/
theorem whole_rec (n : Nat) (p B : List Nat) (h1 : 1 ≤ n) (h2 : n ≤ 1099511627776) (hp : p.length ≤ 16384) : whole (recL n p ++ B) = some (n, p) := by
  obtain ⟨e1, e2, e3, e4⟩ := parts_recL n p B
  have hv : val (num p.length 3) = p.length := val_num _ _ (by omega)
  have hn : val (num n 8) = n := val_num _ _ (by omega)
  have hl : (recL n p ++ B).length = 19 + p.length + B.length := by rw [List.length_append, length_recL]
  unfold whole
  rw [e1, hv, e2, e3, e4, take_append_of_len (length_num n 8), take_append_of_len (length_num n 8), hn, take_append_of_len rfl]
  rw [if_neg (by omega), if_neg (by omega), if_neg (by intro h; rcases h with h | h | h <;> first | omega | exact h rfl)]
theorem whole_short (m : List Nat) (h : m.length < 19) : whole m = none := by unfold whole; rw [if_pos h]
theorem whole_some {m : List Nat} {n : Nat} {p : List Nat} (hm : ∀ c ∈ m, c < 256) (h : whole m = some (n, p)) : 1 ≤ n ∧ n ≤ 1099511627776 ∧ p.length ≤ 16384 ∧ ∃ B, m = recL n p ++ B := by
  unfold whole at h
  by_cases h1 : m.length < 19
  · rw [if_pos h1] at h; cases h
  rw [if_neg h1] at h
  by_cases h2 : 16384 < val (m.take 3) ∨ m.length < 19 + val (m.take 3)
  · rw [if_pos h2] at h; cases h
  rw [if_neg h2] at h
  by_cases h3 : val ((m.drop 3).take 8) < 1 ∨ 1099511627776 < val ((m.drop 3).take 8) ∨ (m.drop 3).take 8 ≠ (m.drop (11 + val (m.take 3))).take 8
  · rw [if_pos h3] at h; cases h
  rw [if_neg h3] at h
  injection h with h
  injection h with hn hp
  have hL : ∃ L, L = val (m.take 3) := ⟨_, rfl⟩
  obtain ⟨L, hL⟩ := hL
  rw [← hL] at h2 h3 hp
  have hpl : p.length = L := by rw [← hp, List.length_take, List.length_drop]; omega
  have e8 : (m.drop 3).take 8 = (m.drop (11 + L)).take 8 := Decidable.byContradiction fun hc => h3 (.inr (.inr hc))
  have hf : (m.drop 3).take 8 = num n 8 := by
    have hx := num_valF ((m.drop 3).take 8) (fun c hc => hm c (List.mem_of_mem_drop (List.mem_of_mem_take hc))) 0
    have hlen : ((m.drop 3).take 8).length = 8 := by rw [List.length_take, List.length_drop]; omega
    unfold val at hn
    rw [hn, hlen] at hx
    exact hx.symm
  have ht : m.take 3 = num p.length 3 := by
    have hx := num_valF (m.take 3) (fun c hc => hm c (List.mem_of_mem_take hc)) 0
    have hlen : (m.take 3).length = 3 := by rw [List.length_take]; omega
    unfold val at hL
    rw [← hL, hlen] at hx
    rw [hpl]; exact hx.symm
  refine ⟨by omega, by omega, by omega, m.drop (19 + L), ?_⟩
  have s1 : m = m.take 3 ++ m.drop 3 := (List.take_append_drop 3 m).symm
  have s2 : m.drop 3 = (m.drop 3).take 8 ++ m.drop 11 := by
    have := (List.take_append_drop 8 (m.drop 3)).symm
    rw [List.drop_drop] at this
    exact this
  have s3 : m.drop 11 = (m.drop 11).take L ++ m.drop (11 + L) := by
    have := (List.take_append_drop L (m.drop 11)).symm
    rw [List.drop_drop] at this
    exact this
  have s4 : m.drop (11 + L) = (m.drop (11 + L)).take 8 ++ m.drop (19 + L) := by
    have := (List.take_append_drop 8 (m.drop (11 + L))).symm
    rw [List.drop_drop, show 11 + L + 8 = 19 + L by omega] at this
    exact this
  unfold recL
  rw [List.append_assoc, List.append_assoc, List.append_assoc, ← ht, ← hp]
  conv => lhs; rw [s1, s2, s3, s4]
  rw [← e8, hf]
theorem length_whole {m : List Nat} {n : Nat} {p : List Nat} (hm : ∀ c ∈ m, c < 256) (h : whole m = some (n, p)) : 19 + p.length ≤ m.length := by
  obtain ⟨_, _, _, B, e⟩ := whole_some hm h
  rw [e, List.length_append, length_recL]; omega
/-- A record that is torn, noughts behind, is none, or is the record. -/
theorem torn (n : Nat) (p : List Nat) (B : List Nat) (h1 : 1 ≤ n) (h2 : n ≤ 1099511627776) (hp : p.length ≤ 16384) (hpl : ∀ c ∈ p, c < 256) (k : Nat) (hk : k ≤ 19 + p.length)
    (hw : whole ((recL n p).take k ++ List.replicate (19 + p.length - k) 0 ++ B) ≠ none) : (recL n p).take k ++ List.replicate (19 + p.length - k) 0 = recL n p := by
  obtain ⟨T, hT⟩ : ∃ T, T = (recL n p).take k ++ List.replicate (19 + p.length - k) 0 := ⟨_, rfl⟩
  have hTl : T.length = 19 + p.length := by rw [hT, List.length_append, List.length_take, length_recL, List.length_replicate]; omega
  have hget : ∀ j, j < 19 + p.length → T.getD j 0 = if j < k then (recL n p).getD j 0 else 0 := by
    intro j hj
    rw [hT]
    by_cases hjk : j < k
    · rw [if_pos hjk, getD_apl _ _ _ (by rw [List.length_take, length_recL]; omega), getD_take _ _ _ hjk]
    · rw [if_neg hjk, getD_apr _ _ _ (by rw [List.length_take, length_recL]; omega), List.length_take, length_recL, List.getD_eq_getElem?_getD, List.getElem?_replicate]
      split <;> rfl
  have hTz : ∀ j, k ≤ j → (T.drop j) = List.replicate (19 + p.length - j) 0 := by
    intro j hj
    rw [hT, List.drop_append, List.drop_eq_nil_of_le (by rw [List.length_take, length_recL]; omega), List.nil_append, List.drop_replicate, List.length_take, length_recL]
    congr 1
    omega
  rw [← hT] at hw ⊢
  have hd : ∀ i m, i + m ≤ T.length → ((T ++ B).drop i).take m = (T.drop i).take m := by
    intro i m him
    rw [List.drop_append_of_le_length (by omega), List.take_append_of_le_length (by rw [List.length_drop]; omega)]
  have hz8 : ∀ i, i + 8 ≤ T.length → k ≤ i → val (((T ++ B).drop i).take 8) = 0 := by
    intro i h8 hki
    rw [hd i 8 h8, hTz i hki, List.take_replicate, val_zeros]
  unfold whole at hw
  rw [if_neg (by rw [List.length_append]; omega)] at hw
  by_cases hk3 : k ≤ 3
  · exfalso
    have h0 := hz8 3 (by omega) hk3
    split at hw
    · exact hw rfl
    · rw [if_pos (.inl (by rw [h0]; omega))] at hw; exact hw rfl
  have ht3 : (T ++ B).take 3 = num p.length 3 := by
    have h31 := (parts_recL n p []).1
    rw [List.append_nil] at h31
    rw [List.take_append_of_le_length (by omega), hT, List.take_append_of_le_length (by rw [List.length_take, length_recL]; omega), List.take_take, Nat.min_eq_left (by omega), h31]
  rw [ht3, val_num _ _ (show p.length < 256 ^ 3 by omega), if_neg (by rw [List.length_append]; omega)] at hw
  have e8 : ((T ++ B).drop 3).take 8 = ((T ++ B).drop (11 + p.length)).take 8 := by
    refine Decidable.byContradiction fun hc => ?_
    rw [if_pos (.inr (.inr hc))] at hw
    exact hw rfl
  by_cases hk11 : k ≤ 11 + p.length
  · exfalso
    have h0 := hz8 (11 + p.length) (by omega) hk11
    rw [← e8] at h0
    rw [if_pos (.inl (by rw [h0]; omega))] at hw
    exact hw rfl
  -- the number ahead is whole, so the one behind is too
  have e3 : (T.drop 3).take 8 = num n 8 := by
    have h31 := (parts_recL n p []).2.1
    rw [List.append_nil] at h31
    have : T.drop 3 = ((recL n p).take k).drop 3 ++ List.replicate (19 + p.length - k) 0 := by
      rw [hT, List.drop_append_of_le_length (by rw [List.length_take, length_recL]; omega)]
    rw [this, List.take_append_of_le_length (by rw [List.length_drop, List.length_take, length_recL]; omega), List.drop_take, h31, List.take_take, Nat.min_eq_left (by omega), take_append_of_len (length_num n 8)]
  rw [hd _ _ (by omega), hd _ _ (by omega), e3] at e8
  have h41 := (parts_recL n p []).2.2.2
  rw [List.append_nil, List.append_nil] at h41
  have hr : recL n p = (recL n p).take (11 + p.length) ++ num n 8 := by
    conv => lhs; rw [← List.take_append_drop (11 + p.length) (recL n p), h41]
  have hTd : T.drop (11 + p.length) = num n 8 := by
    have h9 : (T.drop (11 + p.length)).length = 8 := by rw [List.length_drop]; omega
    rw [e8, List.take_of_length_le (by omega)]
  have hTt : T.take (11 + p.length) = (recL n p).take (11 + p.length) := by
    rw [hT, List.take_append_of_le_length (by rw [List.length_take, length_recL]; omega), List.take_take, Nat.min_eq_left (by omega)]
  rw [hr, ← hTt, ← hTd, List.take_append_drop]
end Go.Proofs.YtilpbjcbffbjeaaGreatDoor
namespace Go.Proofs.YtilpbjcbffbjeaaGreatDoor
set_option linter.unusedVariables false
/-- The payloads that stand one behind another, the first numbered k + 1. -/
def scanF : Nat → List Nat → Nat → List (List Nat)
  | 0, _, _ => []
  | f + 1, m, k => match whole m with
    | some (n, p) => if n = k + 1 then p :: scanF f (m.drop (19 + p.length)) (k + 1) else []
    | none => []
theorem scanF_stop {m : List Nat} {k : Nat} (h : ∀ p, whole m ≠ some (k + 1, p)) (f : Nat) : scanF f m k = [] := by
  cases f with
  | zero => rfl
  | succ f =>
    unfold scanF
    split
    · rename_i n p hw
      rw [if_neg]
      intro hn
      subst hn
      exact h p hw
    · rfl
theorem scanF_step {m : List Nat} {k : Nat} {p : List Nat} (h : whole m = some (k + 1, p)) (f : Nat) : scanF (f + 1) m k = p :: scanF f (m.drop (19 + p.length)) (k + 1) := by
  conv => lhs; unfold scanF
  rw [h]
  dsimp only
  rw [if_pos rfl]
def scan (m : List Nat) : List (List Nat) := scanF (m.length + 1) m 0
/-- How many bytes records take. -/
def lens : List (List Nat) → Nat
  | [] => 0
  | p :: ps => 19 + p.length + lens ps
theorem lens_snoc (ps : List (List Nat)) (p : List Nat) : lens (ps ++ [p]) = lens ps + (19 + p.length) := by
  induction ps with
  | nil => simp [lens]
  | cons q ps ih => rw [List.cons_append, lens, lens, ih]; omega
theorem lens_ge (ps : List (List Nat)) : 19 * ps.length ≤ lens ps := by
  induction ps with
  | nil => simp [lens]
  | cons q ps ih => rw [lens, List.length_cons]; omega
/-- Records one behind another, the first numbered k + 1. -/
def recsL : Nat → List (List Nat) → List Nat
  | _, [] => []
  | k, p :: ps => recL (k + 1) p ++ recsL (k + 1) ps
theorem recsL_snoc (ps : List (List Nat)) (p : List Nat) : ∀ k, recsL k (ps ++ [p]) = recsL k ps ++ recL (k + ps.length + 1) p := by
  induction ps with
  | nil => intro k; simp [recsL]
  | cons q ps ih =>
    intro k
    rw [List.cons_append, recsL, recsL, ih, List.append_assoc, List.length_cons, show k + 1 + ps.length + 1 = k + (ps.length + 1) + 1 by omega]
theorem length_recsL (ps : List (List Nat)) : ∀ k, (recsL k ps).length = lens ps := by
  induction ps with
  | nil => intro k; rfl
  | cons q ps ih => intro k; rw [recsL, lens, List.length_append, length_recL, ih]
/-- What was laid is found, and no more where nothing whole that goes on stands behind. -/
theorem scanF_recs (B : List Nat) : ∀ (ps : List (List Nat)) (k f : Nat), k + ps.length ≤ 1099511627776 → (∀ p ∈ ps, p.length ≤ 16384) → ps.length < f → (∀ q, whole B ≠ some (k + ps.length + 1, q)) → scanF f (recsL k ps ++ B) k = ps := by
  intro ps
  induction ps with
  | nil => intro k f _ _ _ hB; exact scanF_stop hB f
  | cons p ps ih =>
    intro k f hk hp hf hB
    rw [List.length_cons] at hk hf hB
    obtain ⟨f, rfl⟩ : ∃ g, f = g + 1 := ⟨f - 1, by omega⟩
    have hw := whole_rec (k + 1) p (recsL (k + 1) ps ++ B) (by omega) (by omega) (hp p List.mem_cons_self)
    rw [recsL, List.append_assoc, scanF_step hw, List.drop_left' (length_recL _ _)]
    rw [ih (k + 1) f (by omega) (fun q hq => hp q (List.mem_cons_of_mem _ hq)) (by omega) (by rw [show k + 1 + ps.length + 1 = k + (ps.length + 1) + 1 by omega]; exact hB)]
theorem whole_nil : whole [] = none := whole_short [] (by decide)
theorem scan_recs (ps : List (List Nat)) (h1 : ps.length ≤ 1099511627776) (h2 : ∀ p ∈ ps, p.length ≤ 16384) : scan (recsL 0 ps) = ps := by
  have h := scanF_recs [] ps 0 ((recsL 0 ps).length + 1) (by omega) h2 (by rw [length_recsL]; have := lens_ge ps; omega) (fun q => by rw [whole_nil]; simp)
  rw [List.append_nil] at h
  exact h
/-- How the scan goes on: what is found, and where the rest stands. -/
structure ScanAt (m : List Nat) (at0 : Nat) (rs : List (List Nat)) (at_ : Nat) : Prop where
  pos : at_ = at0 + lens rs
  le : at_ ≤ m.length
  go : ∃ f, m.length - at_ < f ∧ rs ++ scanF f (m.drop at_) rs.length = scan (m.drop at0)
theorem ScanAt.start (m : List Nat) (at0 : Nat) (h : at0 ≤ m.length) : ScanAt m at0 [] at0 :=
  ⟨rfl, h, ⟨(m.drop at0).length + 1, by rw [List.length_drop]; omega, rfl⟩⟩
theorem ScanAt.next {m : List Nat} {at0 : Nat} {rs : List (List Nat)} {at_ : Nat} (h : ScanAt m at0 rs at_) (hm : ∀ c ∈ m, c < 256) {p : List Nat} (hw : whole (m.drop at_) = some (rs.length + 1, p)) : ScanAt m at0 (rs ++ [p]) (at_ + (19 + p.length)) := by
  have hl := length_whole (fun c hc => hm c (List.mem_of_mem_drop hc)) hw
  rw [List.length_drop] at hl
  have h1 := h.le
  have h2 := h.pos
  obtain ⟨f, hf, he⟩ := h.go
  refine ⟨by rw [lens_snoc]; omega, by omega, ?_⟩
  obtain ⟨g, rfl⟩ : ∃ g, f = g + 1 := ⟨f - 1, by omega⟩
  rw [scanF_step hw] at he
  refine ⟨g, by omega, ?_⟩
  rw [← he, List.append_assoc, List.length_append, List.drop_drop]
  rfl
theorem ScanAt.done {m : List Nat} {at0 : Nat} {rs : List (List Nat)} {at_ : Nat} (h : ScanAt m at0 rs at_) (hw : ∀ p, whole (m.drop at_) ≠ some (rs.length + 1, p)) : rs = scan (m.drop at0) := by
  obtain ⟨f, _, he⟩ := h.go
  rw [scanF_stop hw, List.append_nil] at he
  exact he
end Go.Proofs.YtilpbjcbffbjeaaGreatDoor
namespace Go.Proofs.YtilpbjcbffbjeaaGreatDoor
set_option linter.unusedVariables false
/-- What choices leave of writes, from the i-th on. -/
def tl (cs : List Int) : Nat → List (List Nat) → List Nat
  | _, [] => []
  | i, w :: ws => if tl cs (i + 1) ws = [] then w.take (kpt cs i w.length) else w.take (kpt cs i w.length) ++ (List.replicate (w.length - kpt cs i w.length) 0 ++ tl cs (i + 1) ws)
theorem tl_nil (cs : List Int) (i : Nat) : tl cs i [] = [] := rfl
theorem tl_cons (cs : List Int) (i : Nat) (w : List Nat) (ws : List (List Nat)) : tl cs i (w :: ws) = if tl cs (i + 1) ws = [] then w.take (kpt cs i w.length) else w.take (kpt cs i w.length) ++ (List.replicate (w.length - kpt cs i w.length) 0 ++ tl cs (i + 1) ws) := rfl
/-- Noughts ahead of bytes, where there are bytes. -/
def zb (z : Nat) (r : List Nat) : List Nat := if r = [] then [] else List.replicate z 0 ++ r
theorem zb_nil (z : Nat) : zb z [] = [] := if_pos rfl
theorem zb_some {z : Nat} {r : List Nat} (h : r ≠ []) : zb z r = List.replicate z 0 ++ r := if_neg h
theorem leftL_at (f : Fl) (cs : List Int) : ∀ d i, i + d = f.ws.length → leftL f cs = (lftN f cs i).1 ++ zb (lftN f cs i).2 (tl cs i ((f.ws.drop i).map bs)) := by
  intro d
  induction d with
  | zero =>
    intro i hi
    rw [List.drop_eq_nil_of_le (by omega), List.map_nil, tl_nil, zb_nil, List.append_nil]
    unfold leftL
    rw [show i = f.ws.length by omega]
  | succ d ih =>
    intro i hi
    have hlt : i < f.ws.length := by omega
    have h1 : f.ws.drop i = f.ws.getD i ⟨#[]⟩ :: f.ws.drop (i + 1) := by
      rw [List.drop_eq_getElem_cons hlt]
      simp [hlt]
    rw [ih (i + 1) (by omega), h1, List.map_cons, tl_cons, lftN_succ, length_bs]
    obtain ⟨w, hw⟩ : ∃ w, w = f.ws.getD i ⟨#[]⟩ := ⟨_, rfl⟩
    obtain ⟨r, hr⟩ : ∃ r, r = tl cs (i + 1) ((f.ws.drop (i + 1)).map bs) := ⟨_, rfl⟩
    rw [← hw, ← hr]
    obtain ⟨c, hc⟩ : ∃ c, c = kpt cs i w.size := ⟨_, rfl⟩
    have hcl : c ≤ w.size := by rw [hc]; exact kpt_le _ _ _
    rw [← hc]
    obtain ⟨A, hA⟩ : ∃ A, A = (lftN f cs i).1 := ⟨_, rfl⟩
    obtain ⟨z, hz⟩ : ∃ z, z = (lftN f cs i).2 := ⟨_, rfl⟩
    rw [← hA, ← hz]
    by_cases c0 : c = 0
    · rw [if_pos c0, c0, List.take_zero, List.nil_append, Nat.sub_zero]
      by_cases r0 : r = []
      · rw [r0, if_pos rfl, zb_nil, zb_nil]
      · rw [if_neg r0, zb_some r0, zb_some (by simp [r0])]
        dsimp only
        rw [← List.replicate_append_replicate, List.append_assoc (List.replicate z 0)]
    · have ht : (bs w).take c ≠ [] := by
        intro h
        have := congrArg List.length h
        rw [List.length_take, length_bs, List.length_nil] at this
        omega
      rw [if_neg c0]
      by_cases r0 : r = []
      · rw [r0, if_pos rfl, zb_nil, zb_some ht]
        dsimp only
        rw [List.append_nil, List.append_assoc]
      · rw [if_neg r0, zb_some r0, zb_some (by simp [ht])]
        dsimp only
        simp only [List.append_assoc]
theorem leftL_tl (f : Fl) (cs : List Int) : leftL f cs = bs f.safe ++ tl cs 0 (f.ws.map bs) := by
  have h := leftL_at f cs f.ws.length 0 (by omega)
  rw [List.drop_zero] at h
  rw [h]
  show bs f.safe ++ zb 0 _ = _
  congr 1
  by_cases r0 : tl cs 0 (f.ws.map bs) = []
  · rw [r0, zb_nil]
  · rw [zb_some r0]; rfl
/-- A record that is cut short is none. -/
theorem whole_cut (n : Nat) (p : List Nat) (hp : p.length ≤ 16384) (k : Nat) (hk : k < 19 + p.length) : whole ((recL n p).take k) = none := by
  have hl : ((recL n p).take k).length = k := by rw [List.length_take, length_recL]; omega
  by_cases h19 : k < 19
  · exact whole_short _ (by omega)
  have h31 := (parts_recL n p []).1
  rw [List.append_nil] at h31
  have ht : ((recL n p).take k).take 3 = num p.length 3 := by rw [List.take_take, Nat.min_eq_left (by omega), h31]
  unfold whole
  rw [if_neg (by omega), ht, val_num _ _ (show p.length < 256 ^ 3 by omega), if_pos (.inr (by omega))]
/-- The writes of records, the first numbered k + 1. -/
def recW : Nat → List (List Nat) → List (List Nat)
  | _, [] => []
  | k, p :: ps => recL (k + 1) p :: recW (k + 1) ps
theorem recW_snoc (ps : List (List Nat)) (p : List Nat) : ∀ k, recW k (ps ++ [p]) = recW k ps ++ [recL (k + ps.length + 1) p] := by
  induction ps with
  | nil => intro k; simp [recW]
  | cons q ps ih =>
    intro k
    rw [List.cons_append, recW, recW, ih, List.cons_append, List.length_cons, show k + 1 + ps.length + 1 = k + (ps.length + 1) + 1 by omega]
theorem recW_flat (ps : List (List Nat)) : ∀ k, (recW k ps).flatMap id = recsL k ps := by
  induction ps with
  | nil => intro k; rfl
  | cons q ps ih => intro k; rw [recW, recsL, List.flatMap_cons, ih]; rfl
theorem length_recW (ps : List (List Nat)) : ∀ k, (recW k ps).length = ps.length := by
  induction ps with
  | nil => intro k; rfl
  | cons q ps ih => intro k; rw [recW, List.length_cons, ih, List.length_cons]
theorem recsL_append (a b : List (List Nat)) : ∀ k, recsL k (a ++ b) = recsL k a ++ recsL (k + a.length) b := by
  induction a with
  | nil => intro k; simp [recsL]
  | cons q a ih => intro k; rw [List.cons_append, recsL, recsL, ih, List.append_assoc, List.length_cons, show k + 1 + a.length = k + (a.length + 1) by omega]
/-- What a crash leaves of records: the first of them, and then nothing that is whole. -/
theorem crash_recs (cs : List Int) : ∀ (ps : List (List Nat)) (k i : Nat), (∀ p ∈ ps, p.length ≤ 16384 ∧ ∀ c ∈ p, c < 256) → k + ps.length ≤ 1099511627776 →
    ∃ j B, j ≤ ps.length ∧ tl cs i (recW k ps) = recsL k (ps.take j) ++ B ∧ whole B = none := by
  intro ps
  induction ps with
  | nil => intro k i _ _; exact ⟨0, [], Nat.le_refl _, rfl, whole_nil⟩
  | cons p ps ih =>
    intro k i hp hk
    rw [List.length_cons] at hk
    obtain ⟨hp1, hp2⟩ := hp p List.mem_cons_self
    obtain ⟨j, B, hj, hT, hB⟩ := ih (k + 1) (i + 1) (fun q hq => hp q (List.mem_cons_of_mem _ hq)) (by omega)
    rw [recW, tl_cons, length_recL]
    obtain ⟨c, hc⟩ : ∃ c, c = kpt cs i (19 + p.length) := ⟨_, rfl⟩
    have hcl : c ≤ 19 + p.length := by rw [hc]; exact kpt_le _ _ _
    rw [← hc]
    by_cases r0 : tl cs (i + 1) (recW (k + 1) ps) = []
    · rw [if_pos r0]
      by_cases hcc : c = 19 + p.length
      · refine ⟨1, [], by rw [List.length_cons]; omega, ?_, whole_nil⟩
        rw [hcc, List.take_of_length_le (by rw [length_recL]; omega)]
        simp [recsL]
      · exact ⟨0, (recL (k + 1) p).take c, Nat.zero_le _, by simp [recsL], whole_cut _ _ hp1 c (by omega)⟩
    · rw [if_neg r0, ← List.append_assoc]
      by_cases hw : whole ((recL (k + 1) p).take c ++ List.replicate (19 + p.length - c) 0 ++ tl cs (i + 1) (recW (k + 1) ps)) = none
      · exact ⟨0, _, Nat.zero_le _, by simp [recsL], hw⟩
      · have ht := torn (k + 1) p _ (by omega) (by omega) hp1 hp2 c hcl hw
        rw [ht, hT]
        exact ⟨j + 1, B, by rw [List.length_cons]; omega, by rw [List.take_succ_cons, recsL, List.append_assoc], hB⟩
end Go.Proofs.YtilpbjcbffbjeaaGreatDoor
