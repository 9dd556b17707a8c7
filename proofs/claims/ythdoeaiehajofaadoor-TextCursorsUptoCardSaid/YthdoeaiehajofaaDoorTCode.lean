/- Base sixteen and base64url, plain: no program in sight. -/
import Derived.Test.YthdoeaiehajofaaDoorTUni
import Derived.Test.YthdoeaiehajofaaDoorTUnf
namespace Go.Proofs.YthdoeaiehajofaaDoor
set_option linter.unusedVariables false
set_option maxRecDepth 20000
namespace C
def sm : List Nat := [48, 49, 50, 51, 52, 53, 54, 55, 56, 57, 97, 98, 99, 100, 101, 102]
def lt : List Nat := [65, 66, 67, 68, 69, 70, 71, 72, 73, 74, 75, 76, 77, 78, 79, 80, 81, 82, 83, 84, 85, 86, 87, 88, 89, 90, 97, 98, 99, 100, 101, 102, 103, 104, 105, 106, 107, 108, 109, 110, 111, 112, 113, 114, 115, 116, 117, 118, 119, 120, 121, 122, 48, 49, 50, 51, 52, 53, 54, 55, 56, 57, 45, 95]
theorem sm_idx (d : Nat) (h : d < 16) : sm.idxOf (sm.getD d 0) = d := by
  have : ∀ d : Fin 16, sm.idxOf (sm.getD d.1 0) = d.1 := by decide
  exact this ⟨d, h⟩
theorem lt_idx (d : Nat) (h : d < 64) : lt.idxOf (lt.getD d 0) = d := by
  have : ∀ d : Fin 64, lt.idxOf (lt.getD d.1 0) = d.1 := by decide
  exact this ⟨d, h⟩
theorem sm_byte (d : Nat) : sm.getD d 0 < 256 := by
  rcases Nat.lt_or_ge d 16 with h | h
  · have : ∀ d : Fin 16, sm.getD d.1 0 < 256 := by decide
    exact this ⟨d, h⟩
  · rw [List.getD_eq_getElem?_getD, List.getElem?_eq_none (by simpa [sm] using h)]; decide
theorem lt_byte (d : Nat) : lt.getD d 0 < 256 := by
  rcases Nat.lt_or_ge d 64 with h | h
  · have : ∀ d : Fin 64, lt.getD d.1 0 < 256 := by decide
    exact this ⟨d, h⟩
  · rw [List.getD_eq_getElem?_getD, List.getElem?_eq_none (by simpa [lt] using h)]; decide
theorem idx_getD {al : List Nat} {c : Nat} (h : al.idxOf c < al.length) : al.getD (al.idxOf c) 0 = c := by
  rw [List.getD_eq_getElem?_getD, List.getElem?_eq_getElem h]
  simp
/-- The digits of base sixteen. -/
def nib (r : List Nat) : List Nat := r.flatMap fun a => [a / 16, a % 16]
theorem nib_cons (a : Nat) (r : List Nat) : nib (a :: r) = a / 16 :: a % 16 :: nib r := by simp [nib]
theorem nib_append (a b : List Nat) : nib (a ++ b) = nib a ++ nib b := by simp [nib]
theorem nib_length (r : List Nat) : (nib r).length = 2 * r.length := by
  induction r with
  | nil => rfl
  | cons a r ih => rw [nib_cons, List.length_cons, List.length_cons, ih, List.length_cons]; omega
theorem nib_lt {r : List Nat} (h : ∀ c ∈ r, c < 256) : ∀ d ∈ nib r, d < 16 := by
  intro d hd
  obtain ⟨a, ha, h2⟩ := List.mem_flatMap.1 hd
  have := h a ha
  simp at h2
  omega
def hexOf (r : List Nat) : List Nat := (nib r).map fun d => sm.getD d 0
theorem hexOf_append (a b : List Nat) : hexOf (a ++ b) = hexOf a ++ hexOf b := by simp [hexOf, nib_append]
theorem hexOf_length (r : List Nat) : (hexOf r).length = 2 * r.length := by rw [hexOf, List.length_map, nib_length]
theorem hexOf_byte (r : List Nat) : ∀ c ∈ hexOf r, c < 256 := by
  intro c hc
  obtain ⟨d, _, rfl⟩ := List.mem_map.1 hc
  exact sm_byte d
/-- The bytes of pairs of digits. -/
def pairs : List Nat → List Nat
  | a :: b :: t => (a * 16 + b) :: pairs t
  | _ => []
theorem pairs_nib : ∀ r : List Nat, pairs (nib r) = r
  | [] => rfl
  | a :: r => by rw [nib_cons, pairs, pairs_nib r]; congr 1; omega
theorem nib_pairs : ∀ l : List Nat, l.length % 2 = 0 → (∀ d ∈ l, d < 16) → nib (pairs l) = l ∧ ∀ c ∈ pairs l, c < 256
  | [], _, _ => ⟨rfl, by simp [pairs]⟩
  | [a], h, _ => by simp at h
  | a :: b :: t, h, hd => by
    obtain ⟨h1, h2⟩ := nib_pairs t (by simp at h; omega) (fun d m => hd d (by simp [m]))
    have ha := hd a (by simp)
    have hb := hd b (by simp)
    refine ⟨?_, fun c hc => ?_⟩
    · rw [pairs, nib_cons, h1]
      congr 1
      · omega
      · congr 1; omega
    · rw [pairs] at hc
      rcases List.mem_cons.1 hc with rfl | hc
      · omega
      · exact h2 c hc
/-- The digits of base64url. -/
def sext : List Nat → List Nat
  | a :: b :: c :: t => (a / 4) :: (a % 4 * 16 + b / 16) :: (b % 16 * 4 + c / 64) :: (c % 64) :: sext t
  | [a, b] => [a / 4, a % 4 * 16 + b / 16, b % 16 * 4]
  | [a] => [a / 4, a % 4 * 16]
  | [] => []
theorem sext_lt : ∀ r : List Nat, (∀ c ∈ r, c < 256) → ∀ d ∈ sext r, d < 64
  | a :: b :: c :: t, h, d, hd => by
    have ha := h a (by simp)
    have hb := h b (by simp)
    have hc := h c (by simp)
    simp only [sext, List.mem_cons] at hd
    rcases hd with rfl | rfl | rfl | rfl | hd
    · omega
    · omega
    · omega
    · omega
    · exact sext_lt t (fun x m => h x (by simp [m])) d hd
  | [a, b], h, d, hd => by
    have ha := h a (by simp)
    have hb := h b (by simp)
    simp only [sext, List.mem_cons, List.not_mem_nil, or_false] at hd
    omega
  | [a], h, d, hd => by
    have ha := h a (by simp)
    simp only [sext, List.mem_cons, List.not_mem_nil, or_false] at hd
    omega
  | [], h, d, hd => by simp [sext] at hd
theorem unf_sext : ∀ r : List Nat, (∀ c ∈ r, c < 256) → unf (sext r) = some r
  | a :: b :: c :: t, h => by
    have ha := h a (by simp)
    have hb := h b (by simp)
    have hc := h c (by simp)
    rw [sext, unf, unf_sext t (fun x m => h x (by simp [m]))]
    simp only [Option.map_some]
    congr 2
    · omega
    · congr 1
      · omega
      · congr 1; omega
  | [a, b], h => by
    have ha := h a (by simp)
    have hb := h b (by simp)
    rw [sext, unf, if_pos (by omega)]
    congr 2
    · omega
    · congr 1; omega
  | [a], h => by
    have ha := h a (by simp)
    rw [sext, unf, if_pos (by omega)]
    congr 2
    omega
  | [], _ => rfl
theorem sext_unf : ∀ (ds : List Nat) (r : List Nat), (∀ d ∈ ds, d < 64) → unf ds = some r → sext r = ds ∧ ∀ c ∈ r, c < 256
  | a :: b :: c :: d :: t, r, h, hu => by
    have ha := h a (by simp)
    have hb := h b (by simp)
    have hc := h c (by simp)
    have hd := h d (by simp)
    rw [unf] at hu
    obtain ⟨r', hr', rfl⟩ := Option.map_eq_some_iff.1 hu
    obtain ⟨h1, h2⟩ := sext_unf t r' (fun x m => h x (by simp [m])) hr'
    refine ⟨?_, fun x hx => ?_⟩
    · rw [sext, h1]
      congr 1
      · omega
      · congr 1
        · omega
        · congr 1
          · omega
          · congr 1; omega
    · simp only [List.mem_cons] at hx
      rcases hx with rfl | rfl | rfl | hx
      · omega
      · omega
      · omega
      · exact h2 x hx
  | [a, b, c], r, h, hu => by
    have ha := h a (by simp)
    have hb := h b (by simp)
    have hc := h c (by simp)
    rw [unf] at hu
    split at hu
    · injection hu with hu
      subst hu
      refine ⟨?_, fun x hx => ?_⟩
      · rw [sext]
        congr 1
        · omega
        · congr 1
          · omega
          · congr 1; omega
      · simp only [List.mem_cons, List.not_mem_nil, or_false] at hx; omega
    · exact absurd hu (by simp)
  | [a, b], r, h, hu => by
    have ha := h a (by simp)
    have hb := h b (by simp)
    rw [unf] at hu
    split at hu
    · injection hu with hu
      subst hu
      refine ⟨?_, fun x hx => ?_⟩
      · rw [sext]
        congr 1
        · omega
        · congr 1; omega
      · simp only [List.mem_cons, List.not_mem_nil, or_false] at hx; omega
    · exact absurd hu (by simp)
  | [a], r, h, hu => by rw [unf] at hu; exact absurd hu (by simp)
  | [], r, h, hu => by rw [unf] at hu; injection hu with hu; subst hu; exact ⟨rfl, by simp⟩
theorem sext_three : ∀ a b : List Nat, a.length % 3 = 0 → sext (a ++ b) = sext a ++ sext b
  | [], b, _ => by simp [sext]
  | [x], b, h => by simp at h
  | [x, y], b, h => by simp at h
  | x :: y :: z :: t, b, h => by
    have := sext_three t b (by simp at h; omega)
    simp only [List.cons_append, sext, this]
theorem sext_length : ∀ r : List Nat, (sext r).length = (4 * r.length + 2) / 3
  | a :: b :: c :: t => by simp only [sext, List.length_cons, sext_length t]; omega
  | [a, b] => by simp [sext]
  | [a] => by simp [sext]
  | [] => by simp [sext]
def b64Of (r : List Nat) : List Nat := (sext r).map fun d => lt.getD d 0
theorem b64Of_three (a b : List Nat) (h : a.length % 3 = 0) : b64Of (a ++ b) = b64Of a ++ b64Of b := by rw [b64Of, sext_three a b h, List.map_append]; rfl
theorem b64Of_length (r : List Nat) : (b64Of r).length = (4 * r.length + 2) / 3 := by rw [b64Of, List.length_map, sext_length]
theorem b64Of_byte (r : List Nat) : ∀ c ∈ b64Of r, c < 256 := by
  intro c hc
  obtain ⟨d, _, rfl⟩ := List.mem_map.1 hc
  exact lt_byte d
/-- The digits that characters are. -/
def digs (al l : List Nat) : List Nat := l.map fun c => al.idxOf c
theorem digs_hex {r : List Nat} (h : ∀ c ∈ r, c < 256) : digs sm (hexOf r) = nib r := by
  unfold digs hexOf
  rw [List.map_map]
  conv => rhs; rw [← List.map_id (nib r)]
  exact List.map_congr_left fun d hd => sm_idx d (nib_lt h d hd)
theorem digs_b64 {r : List Nat} (h : ∀ c ∈ r, c < 256) : digs lt (b64Of r) = sext r := by
  unfold digs b64Of
  rw [List.map_map]
  conv => rhs; rw [← List.map_id (sext r)]
  exact List.map_congr_left fun d hd => lt_idx d (sext_lt r h d hd)
theorem digs_back {al l : List Nat} (h : ∀ c ∈ l, al.idxOf c < al.length) : (digs al l).map (fun d => al.getD d 0) = l := by
  unfold digs
  rw [List.map_map]
  conv => rhs; rw [← List.map_id l]
  exact List.map_congr_left fun c hc => idx_getD (h c hc)
theorem digs_lt {al l : List Nat} (h : ∀ c ∈ l, al.idxOf c < al.length) : ∀ d ∈ digs al l, d < al.length := by
  intro d hd
  obtain ⟨c, hc, rfl⟩ := List.mem_map.1 hd
  exact h c hc
theorem hex_in {r : List Nat} (h : ∀ c ∈ r, c < 256) : ∀ c ∈ hexOf r, sm.idxOf c < sm.length := by
  intro c hc
  obtain ⟨d, hd, rfl⟩ := List.mem_map.1 hc
  have := nib_lt h d hd
  show sm.idxOf (sm.getD d 0) < 16
  rw [sm_idx d this]; exact this
theorem b64_in {r : List Nat} (h : ∀ c ∈ r, c < 256) : ∀ c ∈ b64Of r, lt.idxOf c < lt.length := by
  intro c hc
  obtain ⟨d, hd, rfl⟩ := List.mem_map.1 hc
  have := sext_lt r h d hd
  show lt.idxOf (lt.getD d 0) < 64
  rw [lt_idx d this]; exact this
/-- What is read as base sixteen. -/
theorem hex_of {l : List Nat} (h : ∀ c ∈ l, sm.idxOf c < sm.length) (h2 : l.length % 2 = 0) : l = hexOf (pairs (digs sm l)) ∧ ∀ c ∈ pairs (digs sm l), c < 256 := by
  obtain ⟨h3, h4⟩ := nib_pairs (digs sm l) (by simpa [digs] using h2) (digs_lt h)
  refine ⟨?_, h4⟩
  unfold hexOf
  rw [h3, digs_back h]
theorem hex_not {l : List Nat} (h : (∃ c ∈ l, ¬ sm.idxOf c < sm.length) ∨ l.length % 2 = 1) : ∀ r, (∀ c ∈ r, c < 256) → l ≠ hexOf r := by
  rintro r hr rfl
  rcases h with ⟨c, hc, h⟩ | h
  · exact h (hex_in hr c hc)
  · rw [hexOf_length] at h; omega
theorem hex_inj {a b : List Nat} (ha : ∀ c ∈ a, c < 256) (hb : ∀ c ∈ b, c < 256) (h : hexOf a = hexOf b) : a = b := by
  have := congrArg (digs sm) h
  rw [digs_hex ha, digs_hex hb] at this
  rw [← pairs_nib a, this, pairs_nib]
theorem b64_of {l r : List Nat} (h : ∀ c ∈ l, lt.idxOf c < lt.length) (hu : unf (digs lt l) = some r) : l = b64Of r ∧ ∀ c ∈ r, c < 256 := by
  obtain ⟨h1, h2⟩ := sext_unf (digs lt l) r (digs_lt h) hu
  refine ⟨?_, h2⟩
  unfold b64Of
  rw [h1, digs_back h]
theorem b64_not {l : List Nat} (h : (∃ c ∈ l, ¬ lt.idxOf c < lt.length) ∨ unf (digs lt l) = none) : ∀ r, (∀ c ∈ r, c < 256) → l ≠ b64Of r := by
  rintro r hr rfl
  rcases h with ⟨c, hc, h⟩ | h
  · exact h (b64_in hr c hc)
  · rw [digs_b64 hr, unf_sext r hr] at h; exact absurd h (by simp)
theorem b64_inj {a b : List Nat} (ha : ∀ c ∈ a, c < 256) (hb : ∀ c ∈ b, c < 256) (h : b64Of a = b64Of b) : a = b := by
  have := congrArg (digs lt) h
  rw [digs_b64 ha, digs_b64 hb] at this
  have h1 := unf_sext a ha
  rw [this, unf_sext b hb] at h1
  injection h1 with h1
  exact h1.symm
end C
end Go.Proofs.YthdoeaiehajofaaDoor
