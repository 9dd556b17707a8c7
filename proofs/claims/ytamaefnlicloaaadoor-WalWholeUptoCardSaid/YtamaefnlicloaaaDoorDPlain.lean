/- Disks in plain terms: files, what is read, what choices leave, what each call does. No program in sight. -/
import Derived.Test.YtamaefnlicloaaaDoorStrs
namespace Go.Proofs.YtamaefnlicloaaaDoor
set_option linter.unusedVariables false
theorem bs_append (s t : ByteArray) : bs (s ++ t) = bs s ++ bs t := by simp [bs]
theorem getD_apl (a b : List Nat) (j : Nat) (h : j < a.length) : (a ++ b).getD j 0 = a.getD j 0 := by
  rw [List.getD_eq_getElem?_getD, List.getD_eq_getElem?_getD, List.getElem?_append_left h]
theorem getD_apr (a b : List Nat) (j : Nat) (h : a.length ≤ j) : (a ++ b).getD j 0 = b.getD (j - a.length) 0 := by
  rw [List.getD_eq_getElem?_getD, List.getD_eq_getElem?_getD, List.getElem?_append_right h]
theorem getD_take (a : List Nat) (j n : Nat) (h : j < n) : (a.take n).getD j 0 = a.getD j 0 := by
  rw [List.getD_eq_getElem?_getD, List.getD_eq_getElem?_getD, List.getElem?_take, if_pos h]
/-- A file: its safe bytes, and the writes behind them. -/
structure Fl where
  safe : ByteArray
  ws : List ByteArray
def Fl.zero : Fl := ⟨⟨#[]⟩, []⟩
def rdL (f : Fl) : List Nat := bs f.safe ++ cat f.ws
def rd (f : Fl) : ByteArray := strOf (rdL f)
theorem rdL_lt (f : Fl) : ∀ c ∈ rdL f, c < 256 := fun c hc => by
  rcases List.mem_append.1 hc with h | h
  · exact bs_lt _ c h
  · exact cat_lt _ c h
theorem bs_rd (f : Fl) : bs (rd f) = rdL f := bs_strOf _ (rdL_lt f)
theorem size_rd (f : Fl) : (rd f).size = f.safe.size + (cat f.ws).length := by unfold rd rdL; rw [size_strOf, List.length_append, length_bs]
theorem rd_safe (s : ByteArray) : rd ⟨s, []⟩ = s := by unfold rd rdL; rw [cat_nil, List.append_nil, strOf_bs]
/-- How many bytes of a write a choice keeps. -/
def kpt (cs : List Int) (i n : Nat) : Nat := if i < cs.length then (min (max 0 (cs.getD i 0)) (n : Int)).toNat else 0
theorem kpt_le (cs : List Int) (i n : Nat) : kpt cs i n ≤ n := by unfold kpt; split <;> omega
/-- What the first i writes leave, and how many noughts stand behind it. -/
def lftN (f : Fl) (cs : List Int) : Nat → List Nat × Nat
  | 0 => (bs f.safe, 0)
  | i + 1 =>
    let w := f.ws.getD i ⟨#[]⟩
    if kpt cs i w.size = 0 then ((lftN f cs i).1, (lftN f cs i).2 + w.size)
    else ((lftN f cs i).1 ++ List.replicate (lftN f cs i).2 0 ++ (bs w).take (kpt cs i w.size), w.size - kpt cs i w.size)
theorem lftN_succ (f : Fl) (cs : List Int) (i : Nat) : lftN f cs (i + 1) = if kpt cs i (f.ws.getD i ⟨#[]⟩).size = 0 then ((lftN f cs i).1, (lftN f cs i).2 + (f.ws.getD i ⟨#[]⟩).size)
    else ((lftN f cs i).1 ++ List.replicate (lftN f cs i).2 0 ++ (bs (f.ws.getD i ⟨#[]⟩)).take (kpt cs i (f.ws.getD i ⟨#[]⟩).size), (f.ws.getD i ⟨#[]⟩).size - kpt cs i (f.ws.getD i ⟨#[]⟩).size) := rfl
def leftL (f : Fl) (cs : List Int) : List Nat := (lftN f cs f.ws.length).1
def left (f : Fl) (cs : List Int) : ByteArray := strOf (leftL f cs)
theorem lftN_len (f : Fl) (cs : List Int) (i : Nat) (h : i ≤ f.ws.length) : (lftN f cs i).1.length + (lftN f cs i).2 = f.safe.size + (cat (f.ws.take i)).length := by
  induction i with
  | zero => simp [lftN, length_bs, cat]
  | succ i ih =>
    have ih := ih (by omega)
    have hc := cat_take_succ f.ws i (by omega)
    have hk := kpt_le cs i (f.ws.getD i ⟨#[]⟩).size
    rw [show (ByteArray.empty : ByteArray) = ⟨#[]⟩ from rfl] at hc
    rw [hc, List.length_append, length_bs]
    unfold lftN
    dsimp only
    split
    · dsimp only; omega
    · dsimp only
      rw [List.length_append, List.length_append, List.length_replicate, List.length_take, length_bs]
      omega
theorem lftN_lt (f : Fl) (cs : List Int) (i : Nat) : ∀ c ∈ (lftN f cs i).1, c < 256 := by
  induction i with
  | zero => exact bs_lt _
  | succ i ih =>
    unfold lftN
    dsimp only
    split
    · exact ih
    · intro c hc
      dsimp only at hc
      rcases List.mem_append.1 hc with h | h
      · rcases List.mem_append.1 h with h | h
        · exact ih c h
        · rw [(List.mem_replicate.1 h).2]; decide
      · exact bs_lt _ c (List.mem_of_mem_take h)
theorem leftL_lt (f : Fl) (cs : List Int) : ∀ c ∈ leftL f cs, c < 256 := lftN_lt f cs _
theorem bs_left (f : Fl) (cs : List Int) : bs (left f cs) = leftL f cs := bs_strOf _ (leftL_lt f cs)
theorem length_leftL (f : Fl) (cs : List Int) : (leftL f cs).length ≤ (rdL f).length := by
  have h := lftN_len f cs f.ws.length (Nat.le_refl _)
  rw [List.take_length] at h
  unfold leftL rdL
  rw [List.length_append, length_bs]
  omega
theorem size_left (f : Fl) (cs : List Int) : (left f cs).size ≤ (rd f).size := by
  unfold left rd; rw [size_strOf, size_strOf]; exact length_leftL f cs
theorem left_nil (s : ByteArray) (cs : List Int) : left ⟨s, []⟩ cs = s := by
  unfold left leftL lftN; exact strOf_bs s
/-- Each byte that is left is the one that was, or a nought. -/
theorem lftN_get (f : Fl) (cs : List Int) (i : Nat) (h : i ≤ f.ws.length) : ∀ j, j < (lftN f cs i).1.length → (lftN f cs i).1.getD j 0 = (rdL f).getD j 0 ∨ (lftN f cs i).1.getD j 0 = 0 := by
  induction i with
  | zero =>
    intro j hj
    refine .inl ?_
    have hj' : j < (bs f.safe).length := hj
    show (bs f.safe).getD j 0 = (bs f.safe ++ cat f.ws).getD j 0
    rw [List.getD_eq_getElem?_getD, List.getD_eq_getElem?_getD, List.getElem?_append_left hj']
  | succ i ih =>
    have ih := ih (by omega)
    have hlen := lftN_len f cs i (by omega)
    intro j
    have hrd : ∀ m, m < (f.ws.getD i ⟨#[]⟩).size → (rdL f).getD (f.safe.size + (cat (f.ws.take i)).length + m) 0 = (bs (f.ws.getD i ⟨#[]⟩)).getD m 0 := by
      intro m hm
      have e : rdL f = (bs f.safe ++ cat (f.ws.take i)) ++ (bs (f.ws.getD i ⟨#[]⟩) ++ cat (f.ws.drop (i + 1))) := by
        have h1 : cat f.ws = cat (f.ws.take (i + 1)) ++ cat (f.ws.drop (i + 1)) := by rw [← cat_append, List.take_append_drop]
        unfold rdL
        rw [h1, cat_take_succ f.ws i (by omega)]
        simp only [List.append_assoc]
        rfl
      rw [e, getD_apr _ _ _ (by rw [List.length_append, length_bs]; omega)]
      rw [show f.safe.size + (cat (f.ws.take i)).length + m - (bs f.safe ++ cat (f.ws.take i)).length = m by rw [List.length_append, length_bs]; omega]
      rw [getD_apl _ _ _ (by rw [length_bs]; exact hm)]
    unfold lftN
    dsimp only
    split
    · exact ih j
    · dsimp only
      intro hj
      rw [List.length_append, List.length_append, List.length_replicate] at hj
      by_cases h1 : j < (lftN f cs i).1.length
      · have e : ((lftN f cs i).1 ++ List.replicate (lftN f cs i).2 0 ++ List.take (kpt cs i (f.ws.getD i ⟨#[]⟩).size) (bs (f.ws.getD i ⟨#[]⟩))).getD j 0 = (lftN f cs i).1.getD j 0 := by
          rw [List.append_assoc, getD_apl _ _ _ h1]
        rw [e]
        exact ih j h1
      · by_cases h2 : j < (lftN f cs i).1.length + (lftN f cs i).2
        · refine .inr ?_
          rw [List.append_assoc, getD_apr _ _ _ (by omega), getD_apl _ _ _ (by rw [List.length_replicate]; omega), List.getD_eq_getElem?_getD, List.getElem?_replicate, if_pos (by omega)]
          rfl
        · refine .inl ?_
          obtain ⟨m, rfl⟩ : ∃ m, j = (lftN f cs i).1.length + (lftN f cs i).2 + m := ⟨j - ((lftN f cs i).1.length + (lftN f cs i).2), by omega⟩
          rw [List.length_take, length_bs] at hj
          rw [hlen, hrd m (by omega)]
          rw [getD_apr _ _ _ (by rw [List.length_append, List.length_replicate]; omega)]
          rw [List.length_append, List.length_replicate, hlen, Nat.add_sub_cancel_left]
          rw [getD_take _ _ _ (by omega)]
theorem left_get (f : Fl) (cs : List Int) (j : Nat) (hj : j < (leftL f cs).length) : (leftL f cs).getD j 0 = (rdL f).getD j 0 ∨ (leftL f cs).getD j 0 = 0 := lftN_get f cs _ (Nat.le_refl _) j hj
/-- The bytes of a file as they stand behind i writes gone over: what is left, noughts, the writes to come. -/
def overL (f : Fl) (cs : List Int) (i : Nat) : List Nat := (lftN f cs i).1 ++ List.replicate (lftN f cs i).2 0 ++ cat (f.ws.drop i)
theorem overL_zero (f : Fl) (cs : List Int) : overL f cs 0 = rdL f := by simp [overL, lftN, rdL]
theorem overL_succ (f : Fl) (cs : List Int) (i : Nat) (h : i < f.ws.length) :
    overL f cs (i + 1) = (lftN f cs i).1 ++ List.replicate (lftN f cs i).2 0 ++ (bs (f.ws.getD i ⟨#[]⟩)).take (kpt cs i (f.ws.getD i ⟨#[]⟩).size) ++ List.replicate ((f.ws.getD i ⟨#[]⟩).size - kpt cs i (f.ws.getD i ⟨#[]⟩).size) 0 ++ cat (f.ws.drop (i + 1)) := by
  unfold overL
  rw [lftN_succ]
  split
  · rename_i h0
    rw [h0]
    simp only [List.take_zero, List.append_nil, Nat.sub_zero, List.append_assoc, ← List.replicate_append_replicate]
  · simp only [List.append_assoc]
theorem overL_step (f : Fl) (cs : List Int) (i : Nat) (h : i < f.ws.length) :
    overL f cs i = (lftN f cs i).1 ++ List.replicate (lftN f cs i).2 0 ++ bs (f.ws.getD i ⟨#[]⟩) ++ cat (f.ws.drop (i + 1)) := by
  have h1 : f.ws.drop i = f.ws.getD i ⟨#[]⟩ :: f.ws.drop (i + 1) := by
    rw [List.drop_eq_getElem_cons h]
    simp [h]
  unfold overL
  rw [h1, cat_cons]
  simp
theorem length_overL (f : Fl) (cs : List Int) (i : Nat) (h : i ≤ f.ws.length) : (overL f cs i).length = (rdL f).length := by
  have h1 := lftN_len f cs i h
  have h2 : (cat f.ws).length = (cat (f.ws.take i)).length + (cat (f.ws.drop i)).length := by rw [← List.length_append, ← cat_append, List.take_append_drop]
  unfold overL rdL
  rw [List.length_append, List.length_append, List.length_append, List.length_replicate, length_bs]
  omega
theorem overL_end (f : Fl) (cs : List Int) : (overL f cs f.ws.length).take (leftL f cs).length = leftL f cs := by
  unfold overL leftL
  rw [List.append_assoc, List.take_left']
  rfl
end Go.Proofs.YtamaefnlicloaaaDoor
