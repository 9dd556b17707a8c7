/- What a log's file says, in plain terms: the records that stand whole one behind another, numbered from one. No program in sight. -/
import Derived.Test.YtamaefnlicloaaaDoorWPlain
namespace Go.Proofs.YtamaefnlicloaaaDoor
set_option linter.unusedVariables false
/-- The payloads that stand one behind another, the first numbered k + 1. -/
def scanF : Nat → List Nat → Nat → List (List Nat)
  | 0, _, _ => []
  | f + 1, m, k => match whole m with
    | some (n, p) => if n = k + 1 then p :: scanF f (m.drop (19 + p.length)) (k + 1) else []
    | none => []
theorem scanF_stop {m : List Nat} {k : Nat} (h : ∀ p, whole m ≠ some (k + 1, p)) (f : Nat) : scanF f m k = [] := by
  cases f with
  | zero => rfl
  | succ f =>
    unfold scanF
    split
    · rename_i n p hw
      rw [if_neg]
      intro hn
      subst hn
      exact h p hw
    · rfl
theorem scanF_step {m : List Nat} {k : Nat} {p : List Nat} (h : whole m = some (k + 1, p)) (f : Nat) : scanF (f + 1) m k = p :: scanF f (m.drop (19 + p.length)) (k + 1) := by
  conv => lhs; unfold scanF
  rw [h]
  dsimp only
  rw [if_pos rfl]
def scan (m : List Nat) : List (List Nat) := scanF (m.length + 1) m 0
/-- How many bytes records take. -/
def lens : List (List Nat) → Nat
  | [] => 0
  | p :: ps => 19 + p.length + lens ps
theorem lens_snoc (ps : List (List Nat)) (p : List Nat) : lens (ps ++ [p]) = lens ps + (19 + p.length) := by
  induction ps with
  | nil => simp [lens]
  | cons q ps ih => rw [List.cons_append, lens, lens, ih]; omega
theorem lens_ge (ps : List (List Nat)) : 19 * ps.length ≤ lens ps := by
  induction ps with
  | nil => simp [lens]
  | cons q ps ih => rw [lens, List.length_cons]; omega
/-- Records one behind another, the first numbered k + 1. -/
def recsL : Nat → List (List Nat) → List Nat
  | _, [] => []
  | k, p :: ps => recL (k + 1) p ++ recsL (k + 1) ps
theorem recsL_snoc (ps : List (List Nat)) (p : List Nat) : ∀ k, recsL k (ps ++ [p]) = recsL k ps ++ recL (k + ps.length + 1) p := by
  induction ps with
  | nil => intro k; simp [recsL]
  | cons q ps ih =>
    intro k
    rw [List.cons_append, recsL, recsL, ih, List.append_assoc, List.length_cons, show k + 1 + ps.length + 1 = k + (ps.length + 1) + 1 by omega]
theorem length_recsL (ps : List (List Nat)) : ∀ k, (recsL k ps).length = lens ps := by
  induction ps with
  | nil => intro k; rfl
  | cons q ps ih => intro k; rw [recsL, lens, List.length_append, length_recL, ih]
/-- What was laid is found, and no more where nothing whole that goes on stands behind. -/
theorem scanF_recs (B : List Nat) : ∀ (ps : List (List Nat)) (k f : Nat), k + ps.length ≤ 1099511627776 → (∀ p ∈ ps, p.length ≤ 16384) → ps.length < f → (∀ q, whole B ≠ some (k + ps.length + 1, q)) → scanF f (recsL k ps ++ B) k = ps := by
  intro ps
  induction ps with
  | nil => intro k f _ _ _ hB; exact scanF_stop hB f
  | cons p ps ih =>
    intro k f hk hp hf hB
    rw [List.length_cons] at hk hf hB
    obtain ⟨f, rfl⟩ : ∃ g, f = g + 1 := ⟨f - 1, by omega⟩
    have hw := whole_rec (k + 1) p (recsL (k + 1) ps ++ B) (by omega) (by omega) (hp p List.mem_cons_self)
    rw [recsL, List.append_assoc, scanF_step hw, List.drop_left' (length_recL _ _)]
    rw [ih (k + 1) f (by omega) (fun q hq => hp q (List.mem_cons_of_mem _ hq)) (by omega) (by rw [show k + 1 + ps.length + 1 = k + (ps.length + 1) + 1 by omega]; exact hB)]
theorem whole_nil : whole [] = none := whole_short [] (by decide)
theorem scan_recs (ps : List (List Nat)) (h1 : ps.length ≤ 1099511627776) (h2 : ∀ p ∈ ps, p.length ≤ 16384) : scan (recsL 0 ps) = ps := by
  have h := scanF_recs [] ps 0 ((recsL 0 ps).length + 1) (by omega) h2 (by rw [length_recsL]; have := lens_ge ps; omega) (fun q => by rw [whole_nil]; simp)
  rw [List.append_nil] at h
  exact h
/-- How the scan goes on: what is found, and where the rest stands. -/
structure ScanAt (m : List Nat) (at0 : Nat) (rs : List (List Nat)) (at_ : Nat) : Prop where
  pos : at_ = at0 + lens rs
  le : at_ ≤ m.length
  go : ∃ f, m.length - at_ < f ∧ rs ++ scanF f (m.drop at_) rs.length = scan (m.drop at0)
theorem ScanAt.start (m : List Nat) (at0 : Nat) (h : at0 ≤ m.length) : ScanAt m at0 [] at0 :=
  ⟨rfl, h, ⟨(m.drop at0).length + 1, by rw [List.length_drop]; omega, rfl⟩⟩
theorem ScanAt.next {m : List Nat} {at0 : Nat} {rs : List (List Nat)} {at_ : Nat} (h : ScanAt m at0 rs at_) (hm : ∀ c ∈ m, c < 256) {p : List Nat} (hw : whole (m.drop at_) = some (rs.length + 1, p)) : ScanAt m at0 (rs ++ [p]) (at_ + (19 + p.length)) := by
  have hl := length_whole (fun c hc => hm c (List.mem_of_mem_drop hc)) hw
  rw [List.length_drop] at hl
  have h1 := h.le
  have h2 := h.pos
  obtain ⟨f, hf, he⟩ := h.go
  refine ⟨by rw [lens_snoc]; omega, by omega, ?_⟩
  obtain ⟨g, rfl⟩ : ∃ g, f = g + 1 := ⟨f - 1, by omega⟩
  rw [scanF_step hw] at he
  refine ⟨g, by omega, ?_⟩
  rw [← he, List.append_assoc, List.length_append, List.drop_drop]
  rfl
theorem ScanAt.done {m : List Nat} {at0 : Nat} {rs : List (List Nat)} {at_ : Nat} (h : ScanAt m at0 rs at_) (hw : ∀ p, whole (m.drop at_) ≠ some (rs.length + 1, p)) : rs = scan (m.drop at0) := by
  obtain ⟨f, _, he⟩ := h.go
  rw [scanF_stop hw, List.append_nil] at he
  exact he
end Go.Proofs.YtamaefnlicloaaaDoor
