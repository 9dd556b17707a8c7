/- UTF-8 and units, plain: no program in sight. -/
import Derived.Lib.MapLaws
import Derived.Test.YthdoeaiehajofaaDoorBytes
namespace Go.Proofs.YthdoeaiehajofaaDoor
set_option linter.unusedVariables false
namespace U
/-- Is it a rune? -/
def may (n : Nat) : Prop := n ≤ 1114111 ∧ (n < 55296 ∨ 57343 < n)
instance (n : Nat) : Decidable (may n) := inferInstanceAs (Decidable (_ ∧ _))
/-- The UTF-8 of a number. -/
def enc (n : Nat) : List Nat :=
  if n < 128 then [n] else if n < 2048 then [192 + n / 64, 128 + n % 64]
  else if n < 65536 then [224 + n / 4096, 128 + n / 64 % 64, 128 + n % 64]
  else [240 + n / 262144, 128 + n / 4096 % 64, 128 + n / 64 % 64, 128 + n % 64]
def encs (rs : List Nat) : List Nat := rs.flatMap enc
theorem encs_nil : encs [] = [] := rfl
theorem encs_cons (n : Nat) (rs : List Nat) : encs (n :: rs) = enc n ++ encs rs := by simp [encs]
theorem encs_append (a b : List Nat) : encs (a ++ b) = encs a ++ encs b := by simp [encs]
theorem enc_length (n : Nat) : 1 ≤ (enc n).length ∧ (enc n).length ≤ 4 := by
  unfold enc
  split
  · simp
  split
  · simp
  split
  · simp
  · simp
theorem enc_lt (n : Nat) (h : may n) : ∀ c ∈ enc n, c < 256 := by
  obtain ⟨h1, h2⟩ := h
  intro c hc
  unfold enc at hc
  split at hc
  · simp at hc; omega
  split at hc
  · simp at hc; omega
  split at hc
  · simp at hc; omega
  · simp at hc; omega
/-- No two runes' UTF-8 begin the same bytes. -/
theorem enc_unique {n m : Nat} (hn : may n) (hm : may m) {x y : List Nat} (h : enc n ++ x = enc m ++ y) : n = m ∧ x = y := by
  obtain ⟨n1, n2⟩ := hn
  obtain ⟨m1, m2⟩ := hm
  have key : n = m := by
    unfold enc at h
    split at h <;> split at h <;> (try split at h) <;> (try split at h) <;> (try split at h) <;> (try split at h) <;> simp at h <;> omega
  subst key
  exact ⟨rfl, List.append_cancel_left h⟩
/-- l is the UTF-8 of the runes. -/
def Is (l rs : List Nat) : Prop := l = encs rs ∧ ∀ r ∈ rs, may r
theorem Is.nil : Is [] [] := ⟨rfl, by simp⟩
theorem Is.append {a b rs ts : List Nat} (h : Is a rs) (k : Is b ts) : Is (a ++ b) (rs ++ ts) :=
  ⟨by rw [h.1, k.1, encs_append], fun r hr => (List.mem_append.1 hr).elim (h.2 r) (k.2 r)⟩
theorem enc_ne (n : Nat) : enc n ≠ [] := fun e => by have := (enc_length n).1; rw [e] at this; simp at this
theorem encs_eq_nil {rs : List Nat} (h : encs rs = []) : rs = [] := by
  cases rs with
  | nil => rfl
  | cons r rs => rw [encs_cons] at h; exact absurd (List.append_eq_nil_iff.1 h).1 (enc_ne r)
theorem Is.unique : ∀ {rs ts : List Nat} {l : List Nat}, Is l rs → Is l ts → rs = ts
  | [], ts, l, h, k => by have := h.1; rw [encs_nil] at this; subst this; exact (encs_eq_nil k.1.symm).symm
  | r :: rs, [], l, h, k => by have := k.1; rw [encs_nil] at this; subst this; exact encs_eq_nil h.1.symm
  | r :: rs, t :: ts, l, h, k => by
    have e : enc r ++ encs rs = enc t ++ encs ts := by rw [← encs_cons, ← encs_cons, ← h.1, ← k.1]
    obtain ⟨rfl, e2⟩ := enc_unique (h.2 r (by simp)) (k.2 t (by simp)) e
    rw [Is.unique (l := encs rs) ⟨rfl, fun x hx => h.2 x (by simp [hx])⟩ ⟨e2, fun x hx => k.2 x (by simp [hx])⟩]
/-- What stands behind runes is UTF-8, if all is. -/
theorem Is.cancel : ∀ {rs : List Nat} {b us : List Nat}, (∀ r ∈ rs, may r) → Is (encs rs ++ b) us → ∃ ts, us = rs ++ ts ∧ Is b ts
  | [], b, us, _, h => ⟨us, rfl, by simpa [encs_nil] using h⟩
  | r :: rs, b, us, hr, h => by
    cases us with
    | nil => have := h.1; rw [encs_cons, List.append_assoc, encs_nil] at this; exact absurd (List.append_eq_nil_iff.1 this).1 (enc_ne r)
    | cons u us =>
      have e := h.1
      rw [encs_cons, encs_cons, List.append_assoc] at e
      obtain ⟨rfl, e2⟩ := enc_unique (hr r (by simp)) (h.2 u (by simp)) e
      obtain ⟨ts, rfl, h2⟩ := Is.cancel (rs := rs) (b := b) (us := us) (fun x hx => hr x (by simp [hx])) ⟨e2, fun x hx => h.2 x (by simp [hx])⟩
      exact ⟨ts, rfl, h2⟩
/-- The document's reckoning: the number that the first many bytes say. -/
def num (l : List Nat) (many : Nat) : Nat :=
  match many with
  | 2 => l.getD 0 0 % 32 * 64 + l.getD 1 0 % 64
  | 3 => l.getD 0 0 % 16 * 4096 + l.getD 1 0 % 64 * 64 + l.getD 2 0 % 64
  | 4 => l.getD 0 0 % 8 * 262144 + l.getD 1 0 % 64 * 4096 + l.getD 2 0 % 64 * 64 + l.getD 3 0 % 64
  | _ => l.getD 0 0
def hit (l : List Nat) (many : Nat) : Prop := many ≤ l.length ∧ may (num l many) ∧ enc (num l many) = l.take many
instance (l : List Nat) (m : Nat) : Decidable (hit l m) := inferInstanceAs (Decidable (_ ∧ _ ∧ _))
/-- What the bytes begin with is found, at its length. -/
theorem hit_of {l : List Nat} {n : Nat} (hn : may n) {x : List Nat} (h : l = enc n ++ x) : hit l (enc n).length ∧ num l (enc n).length = n := by
  have key : num l (enc n).length = n := by
    obtain ⟨n1, n2⟩ := hn
    subst h
    unfold enc
    split
    · simp [num]
    split
    · simp [num]; omega
    split
    · simp [num]; omega
    · simp [num]; omega
  refine ⟨⟨by rw [h]; simp, by rw [key]; exact hn, ?_⟩, key⟩
  rw [key, h, List.take_left]
theorem of_hit {l : List Nat} {m : Nat} (h : hit l m) : may (num l m) ∧ l = enc (num l m) ++ l.drop m ∧ (enc (num l m)).length = m := by
  obtain ⟨h1, h2, h3⟩ := h
  refine ⟨h2, ?_, ?_⟩
  · rw [h3, List.take_append_drop]
  · rw [h3, List.length_take, Nat.min_eq_left h1]
/-- The model's decoding of a string, at a place. -/
theorem bs_get! (s : ByteArray) (i : Nat) : (s.get! i).toNat = (bs s).getD i 0 := by
  unfold bs
  rw [List.getD_eq_getElem?_getD, List.getElem?_map, Array.getElem?_toList]
  show (s.data[i]!).toNat = _
  rw [getElem!_def]
  cases s.data[i]? <;> rfl
theorem getD_drop (l : List Nat) (i j : Nat) : (l.drop i).getD j 0 = l.getD (i + j) 0 := by
  rw [List.getD_eq_getElem?_getD, List.getElem?_drop, List.getD_eq_getElem?_getD]
theorem take1 (l : List Nat) (h : 0 < l.length) : l.take 1 = [l.getD 0 0] := by
  match l, h with | _ :: _, _ => simp
theorem take2 (l : List Nat) (h : 1 < l.length) : l.take 2 = [l.getD 0 0, l.getD 1 0] := by
  match l, h with | _ :: _ :: _, _ => simp
theorem take3 (l : List Nat) (h : 2 < l.length) : l.take 3 = [l.getD 0 0, l.getD 1 0, l.getD 2 0] := by
  match l, h with | _ :: _ :: _ :: _, _ => simp
theorem take4 (l : List Nat) (h : 3 < l.length) : l.take 4 = [l.getD 0 0, l.getD 1 0, l.getD 2 0, l.getD 3 0] := by
  match l, h with | _ :: _ :: _ :: _ :: _, _ => simp
theorem getD_lt {l : List Nat} (h : ∀ c ∈ l, c < 256) (i : Nat) : l.getD i 0 < 256 := by
  rw [List.getD_eq_getElem?_getD]
  cases e : l[i]? with
  | none => simp
  | some c => exact h c (List.mem_of_getElem? e)
open Go.Lib in
theorem decodeN_enc {n : Nat} (hn : may n) {l x : List Nat} (h : l = enc n ++ x) : decodeN l.length (l.getD 0 0) (l.getD 1 0) (l.getD 2 0) (l.getD 3 0) = (n, (enc n).length) := by
  obtain ⟨n1, n2⟩ := hn
  unfold enc at h ⊢
  by_cases a : n < 128
  · simp only [if_pos a] at h ⊢
    subst h
    simp [decodeN, a]
  · simp only [if_neg a] at h ⊢
    by_cases b : n < 2048
    · simp only [if_pos b] at h ⊢
      subst h
      unfold decodeN
      rw [if_neg (by simp; omega), if_pos (by simp; omega), if_pos (by simp; omega)]
      simp; omega
    · simp only [if_neg b] at h ⊢
      by_cases c : n < 65536
      · simp only [if_pos c] at h ⊢
        subst h
        unfold decodeN
        rw [if_neg (by simp; omega), if_neg (by simp; omega), if_pos (by simp; omega), if_pos (by simp; omega)]
        simp; omega
      · simp only [if_neg c] at h ⊢
        subst h
        unfold decodeN
        rw [if_neg (by simp; omega), if_neg (by simp; omega), if_neg (by simp; omega), if_pos (by simp; omega), if_pos (by simp; omega)]
        simp; omega
open Go.Lib in
theorem decodeN_not {l : List Nat} (hp : 0 < l.length) (hb : ∀ c ∈ l, c < 256) (h : ∀ n x, may n → l ≠ enc n ++ x) : decodeN l.length (l.getD 0 0) (l.getD 1 0) (l.getD 2 0) (l.getD 3 0) = (65533, 1) := by
  have k0 := getD_lt hb 0
  have k1 := getD_lt hb 1
  have k2 := getD_lt hb 2
  have k3 := getD_lt hb 3
  have tk : ∀ m, l = l.take m ++ l.drop m := fun m => (List.take_append_drop m l).symm
  have hn : ∀ n m, may n → enc n ≠ l.take m := fun n m hm e => h n (l.drop m) hm (by rw [e]; exact tk m)
  rcases decodeN_shape l.length (l.getD 0 0) (l.getD 1 0) (l.getD 2 0) (l.getD 3 0) with ⟨c, e⟩ | ⟨c1, c2, c3, cv, e⟩ | ⟨c1, c2, c3, c4, cv, cs, e⟩ | ⟨c1, c2, c3, c4, c5, cv, cw, e⟩ | e
  · refine absurd ?_ (hn (l.getD 0 0) 1 ⟨by omega, by omega⟩)
    rw [take1 l hp]; unfold enc; rw [if_pos c]
  · refine absurd ?_ (hn (l.getD 0 0 % 32 * 64 + l.getD 1 0 % 64) 2 ⟨by omega, by omega⟩)
    rw [take2 l c2]; unfold enc; rw [if_neg (by omega), if_pos (by omega)]
    congr 1
    · omega
    · congr 1; omega
  · refine absurd ?_ (hn (l.getD 0 0 % 16 * 4096 + l.getD 1 0 % 64 * 64 + l.getD 2 0 % 64) 3 ⟨by omega, by omega⟩)
    rw [take3 l c2]; unfold enc; rw [if_neg (by omega), if_neg (by omega), if_pos (by omega)]
    congr 1
    · omega
    · congr 1
      · omega
      · congr 1; omega
  · refine absurd ?_ (hn (l.getD 0 0 % 8 * 262144 + l.getD 1 0 % 64 * 4096 + l.getD 2 0 % 64 * 64 + l.getD 3 0 % 64) 4 ⟨by omega, by omega⟩)
    rw [take4 l c2]; unfold enc; rw [if_neg (by omega), if_neg (by omega), if_neg (by omega)]
    congr 1
    · omega
    · congr 1
      · omega
      · congr 1
        · omega
        · congr 1; omega
  · exact e
theorem decode_drop (s : ByteArray) (i : Nat) (h : i < s.size) : Utf8.decode s i = Go.Lib.decodeN ((bs s).drop i).length (((bs s).drop i).getD 0 0) (((bs s).drop i).getD 1 0) (((bs s).drop i).getD 2 0) (((bs s).drop i).getD 3 0) := by
  rw [Go.Lib.decode_at, bs_get!, bs_get!, bs_get!, bs_get!, getD_drop, getD_drop, getD_drop, getD_drop, List.length_drop, length_bs]
  rfl
theorem decode_is (s : ByteArray) (i : Nat) (h : i < s.size) :
    (may (Utf8.decode s i).1 ∧ (bs s).drop i = enc (Utf8.decode s i).1 ++ (bs s).drop (i + (Utf8.decode s i).2) ∧ (Utf8.decode s i).2 = (enc (Utf8.decode s i).1).length) ∨
    ((Utf8.decode s i).1 = 65533 ∧ (Utf8.decode s i).2 = 1 ∧ ∀ n x, may n → (bs s).drop i ≠ enc n ++ x) := by
  rw [decode_drop s i h]
  have hl : ((bs s).drop i).length = s.size - i := by rw [List.length_drop, length_bs]
  have hb : ∀ c ∈ (bs s).drop i, c < 256 := fun c hc => bs_lt s c (List.mem_of_mem_drop hc)
  by_cases hx : ∃ n x, may n ∧ (bs s).drop i = enc n ++ x
  · obtain ⟨n, x, hn, he⟩ := hx
    rw [decodeN_enc hn he]
    refine .inl ⟨hn, ?_, rfl⟩
    rw [← List.drop_drop]
    generalize hL : (bs s).drop i = L at he ⊢
    rw [he, List.drop_left]
  · have hx2 : ∀ n x, may n → (bs s).drop i ≠ enc n ++ x := fun n x hn he => hx ⟨n, x, hn, he⟩
    rw [decodeN_not (by omega) hb hx2]
    exact .inr ⟨rfl, rfl, hx2⟩
/-! ### units of 16 bits -/
def high (n : Int) : Prop := 55296 ≤ n ∧ n ≤ 56319
def low (n : Int) : Prop := 56320 ≤ n ∧ n ≤ 57343
instance (n : Int) : Decidable (high n) := inferInstanceAs (Decidable (_ ∧ _))
instance (n : Int) : Decidable (low n) := inferInstanceAs (Decidable (_ ∧ _))
/-- The units of a rune. -/
def u16 (n : Nat) : List Int := if n < 65536 then [(n : Int)] else [((55296 + (n - 65536) / 1024 : Nat) : Int), ((56320 + (n - 65536) % 1024 : Nat) : Int)]
def units (rs : List Nat) : List Int := rs.flatMap u16
theorem units_cons (n : Nat) (rs : List Nat) : units (n :: rs) = u16 n ++ units rs := by simp [units]
theorem units_append (a b : List Nat) : units (a ++ b) = units a ++ units b := by simp [units]
/-- What units say: an error (0: none), and the runes before it. -/
def jn : List Int → Int × List Nat
  | [] => (0, [])
  | n :: t =>
    if n < 0 ∨ 65535 < n then (13, [])
    else if low n then (14, [])
    else if high n then
      match t with
      | [] => (14, [])
      | m :: t => if low m then ((jn t).1, (65536 + (n - 55296) * 1024 + (m - 56320)).toNat :: (jn t).2) else (14, [])
    else ((jn t).1, n.toNat :: (jn t).2)
theorem jn_cons (n : Int) (t : List Int) : jn (n :: t) =
    if n < 0 ∨ 65535 < n then (13, [])
    else if low n then (14, [])
    else if high n then
      match t with
      | [] => (14, [])
      | m :: t => if low m then ((jn t).1, (65536 + (n - 55296) * 1024 + (m - 56320)).toNat :: (jn t).2) else (14, [])
    else ((jn t).1, n.toNat :: (jn t).2) := by rw [jn.eq_def]
theorem jn_units : ∀ rs : List Nat, (∀ r ∈ rs, may r) → jn (units rs) = (0, rs)
  | [], _ => rfl
  | r :: rs, h => by
    have ih := jn_units rs (fun x hx => h x (by simp [hx]))
    obtain ⟨h1, h2⟩ := h r (by simp)
    rw [units_cons]
    unfold u16
    by_cases a : r < 65536
    · rw [if_pos a]
      show jn ((r : Int) :: units rs) = _
      rw [jn_cons, if_neg (by omega), if_neg (by unfold low; omega), if_neg (by unfold high; omega), ih, Int.toNat_natCast]
    · rw [if_neg a]
      show jn (((55296 + (r - 65536) / 1024 : Nat) : Int) :: ((56320 + (r - 65536) % 1024 : Nat) : Int) :: units rs) = _
      rw [jn_cons, if_neg (by omega), if_neg (by unfold low; omega), if_pos (by unfold high; omega)]
      simp only
      rw [if_pos (by unfold low; omega), ih]
      congr 2
      omega
theorem units_jn : ∀ (l : List Int), (jn l).1 = 0 → units (jn l).2 = l ∧ ∀ r ∈ (jn l).2, may r
  | [], _ => ⟨rfl, by simp [jn]⟩
  | n :: t, h => by
    rw [jn_cons] at h ⊢
    by_cases a : n < 0 ∨ 65535 < n
    · rw [if_pos a] at h; exact absurd h (by decide)
    rw [if_neg a] at h ⊢
    by_cases b : low n
    · rw [if_pos b] at h; exact absurd h (by decide)
    rw [if_neg b] at h ⊢
    by_cases c : high n
    · rw [if_pos c] at h ⊢
      cases t with
      | nil => exact absurd (show (14 : Int) = 0 from h) (by decide)
      | cons m t =>
        simp only at h ⊢
        by_cases d : low m
        · rw [if_pos d] at h ⊢
          obtain ⟨h1, h2⟩ := units_jn t h
          unfold high at c
          unfold low at d
          refine ⟨?_, fun r hr => ?_⟩
          · rw [units_cons, h1]
            unfold u16
            rw [if_neg (by omega)]
            simp only [List.cons_append, List.nil_append, List.cons.injEq, and_true]
            omega
          · rcases List.mem_cons.1 hr with rfl | hr
            · exact ⟨by omega, by omega⟩
            · exact h2 r hr
        · rw [if_neg d] at h; exact absurd h (by decide)
    · rw [if_neg c] at h ⊢
      obtain ⟨h1, h2⟩ := units_jn t h
      unfold high at c
      unfold low at b
      refine ⟨?_, fun r hr => ?_⟩
      · rw [units_cons, h1]
        unfold u16
        rw [if_pos (by omega)]
        simp only [List.cons_append, List.nil_append, List.cons.injEq, and_true]
        omega
      · rcases List.mem_cons.1 hr with rfl | hr
        · exact ⟨by omega, by omega⟩
        · exact h2 r hr
theorem jn_err : ∀ l : List Int, (jn l).1 = 0 ∨ (jn l).1 = 13 ∨ (jn l).1 = 14
  | [] => .inl rfl
  | n :: t => by
    rw [jn_cons]
    split
    · exact .inr (.inl rfl)
    split
    · exact .inr (.inr rfl)
    split
    · cases t with
      | nil => exact .inr (.inr rfl)
      | cons m t =>
        simp only
        split
        · exact jn_err t
        · exact .inr (.inr rfl)
    · exact jn_err t
end U
end Go.Proofs.YthdoeaiehajofaaDoor
