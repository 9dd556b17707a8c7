/- The audit's chain, plainly: payloads of texts, what a file's bytes are verified as. No program in sight. -/
import Derived.Test.YtilpbjcbffbjeaaGreatDoorAVer
import Derived.Test.YtilpbjcbffbjeaaGreatDoorPkE
namespace Go.Proofs.YtilpbjcbffbjeaaGreatDoor
set_option linter.unusedVariables false
open Go.RowKit
/-- The link behind texts. -/
def linkF (link : List Nat) : List (List Nat) → List Nat
  | [] => link
  | t :: ts => linkF (nextL link t) ts
def linkL (ts : List (List Nat)) : List Nat := linkF firstL ts
/-- The payloads of texts. -/
def paysF (link : List Nat) : List (List Nat) → List (List Nat)
  | [] => []
  | t :: ts => (t ++ nextL link t) :: paysF (nextL link t) ts
def pays (ts : List (List Nat)) : List (List Nat) := paysF firstL ts
theorem linkF_snoc (t : List Nat) : ∀ (ts : List (List Nat)) (k : List Nat), linkF k (ts ++ [t]) = nextL (linkF k ts) t
  | [], _ => rfl
  | _ :: ts, _ => linkF_snoc t ts _
theorem linkL_snoc (ts : List (List Nat)) (t : List Nat) : linkL (ts ++ [t]) = nextL (linkL ts) t := linkF_snoc t ts _
theorem paysF_snoc (t : List Nat) : ∀ (ts : List (List Nat)) (k : List Nat), paysF k (ts ++ [t]) = paysF k ts ++ [t ++ nextL (linkF k ts) t]
  | [], _ => rfl
  | u :: ts, k => by show _ :: paysF _ (ts ++ [t]) = _; rw [paysF_snoc t ts]; rfl
theorem pays_snoc (ts : List (List Nat)) (t : List Nat) : pays (ts ++ [t]) = pays ts ++ [t ++ nextL (linkL ts) t] := paysF_snoc t ts _
theorem length_paysF : ∀ (ts : List (List Nat)) (k : List Nat), (paysF k ts).length = ts.length
  | [], _ => rfl
  | _ :: ts, _ => by simp [paysF, length_paysF ts]
theorem length_pays (ts : List (List Nat)) : (pays ts).length = ts.length := length_paysF ts _
theorem take_paysF (j : Nat) : ∀ (ts : List (List Nat)) (k : List Nat), (paysF k ts).take j = paysF k (ts.take j) := by
  induction j with
  | zero => intro ts k; rfl
  | succ j ih =>
    intro ts k
    cases ts with
    | nil => rfl
    | cons t ts => simp [paysF, ih]
theorem take_pays (ts : List (List Nat)) (j : Nat) : (pays ts).take j = pays (ts.take j) := take_paysF j ts _
theorem linkF_lt : ∀ (ts : List (List Nat)) (k : List Nat), (∀ c ∈ k, c < 256) → ∀ c ∈ linkF k ts, c < 256
  | [], _, h => h
  | _ :: ts, _, _ => linkF_lt ts _ (nextL_lt _ _)
theorem linkL_lt (ts : List (List Nat)) : ∀ c ∈ linkL ts, c < 256 := linkF_lt ts _ firstL_lt
theorem length_linkF : ∀ (ts : List (List Nat)) (k : List Nat), k.length = 32 → (linkF k ts).length = 32
  | [], _, h => h
  | _ :: ts, _, _ => length_linkF ts _ (length_nextL _ _)
theorem length_linkL (ts : List (List Nat)) : (linkL ts).length = 32 := length_linkF ts _ length_firstL
theorem txt_pay (t n : List Nat) (h : n.length = 32) : txt (t ++ n) = t := by unfold txt; rw [List.length_append, h, Nat.add_sub_cancel]; exact List.take_left
theorem lnk_pay (t n : List Nat) (h : n.length = 32) : lnk (t ++ n) = n := by unfold lnk; rw [List.length_append, h, Nat.add_sub_cancel]; exact List.drop_left
theorem mem_paysF : ∀ (ts : List (List Nat)) (k : List Nat) (p : List Nat), p ∈ paysF k ts → ∃ t ∈ ts, ∃ j, p = t ++ nextL j t
  | [], _, _, h => by cases h
  | t :: ts, k, p, h => by
    rcases List.mem_cons.1 h with rfl | h
    · exact ⟨t, List.mem_cons_self, k, rfl⟩
    · obtain ⟨u, hu, j, e⟩ := mem_paysF ts _ p h
      exact ⟨u, List.mem_cons_of_mem _ hu, j, e⟩
theorem txt_pays : ∀ (ts : List (List Nat)) (k : List Nat), (paysF k ts).map txt = ts
  | [], _ => rfl
  | t :: ts, k => by show txt _ :: (paysF _ ts).map txt = _; rw [txt_pay _ _ (length_nextL _ _), txt_pays ts]
/-- Texts that fit. -/
def Fits (ts : List (List Nat)) : Prop := ∀ t ∈ ts, t.length ≤ 1024 ∧ ∀ c ∈ t, c < 256
theorem Fits.take {ts : List (List Nat)} (h : Fits ts) (j : Nat) : Fits (ts.take j) := fun t ht => h t (List.mem_of_mem_take ht)
theorem okP_pays {ts : List (List Nat)} (h : Fits ts) : ∀ p ∈ pays ts, okP p := by
  intro p hp
  obtain ⟨t, ht, j, rfl⟩ := mem_paysF _ _ _ hp
  have := (h t ht).1
  unfold okP
  rw [List.length_append, length_nextL]
  omega
theorem pay_le {ts : List (List Nat)} (h : Fits ts) : ∀ p ∈ pays ts, p.length ≤ 16384 ∧ ∀ c ∈ p, c < 256 := by
  intro p hp
  obtain ⟨t, ht, j, rfl⟩ := mem_paysF _ _ _ hp
  have := h t ht
  refine ⟨by rw [List.length_append, length_nextL]; omega, fun c hc => ?_⟩
  rcases List.mem_append.1 hc with h1 | h1
  · exact this.2 c h1
  · exact nextL_lt _ _ c h1
theorem au_paysF : ∀ (ts : List (List Nat)) (k : List Nat) (n : Nat), (paysF k ts).foldl auF (k, n, none) = (linkF k ts, n + ts.length, none)
  | [], _, _ => rfl
  | t :: ts, k, n => by
    show (paysF _ ts).foldl auF (auF (k, n, none) (t ++ nextL k t)) = _
    have e : auF (k, n, none) (t ++ nextL k t) = (nextL k t, n + 1, none) := by
      unfold auF
      simp only [txt_pay _ _ (length_nextL _ _), lnk_pay _ _ (length_nextL _ _)]
      simp
    rw [e, au_paysF ts]
    simp [linkF]; omega
theorem au_pays (ts : List (List Nat)) : au (pays ts) = (linkL ts, ts.length, none) := by
  unfold au pays linkL
  rw [au_paysF, Nat.zero_add]
theorem txts_pays (ss : List ByteArray) : txts (pays (ss.map bs)) = ss := by
  unfold txts pays
  have h := txt_pays (ss.map bs) firstL
  show (paysF firstL (ss.map bs)).map (strOf ∘ txt) = ss
  rw [← List.map_map, h, List.map_map]
  conv => rhs; rw [← List.map_id ss]
  refine List.map_congr_left fun s _ => ?_
  simp [strOf_bs]
theorem fits_map {ss : List ByteArray} (h : ∀ s ∈ ss, s.size ≤ 1024) : Fits (ss.map bs) := by
  intro t ht
  obtain ⟨s, hs, rfl⟩ := List.mem_map.1 ht
  exact ⟨by rw [length_bs]; exact h s hs, bs_lt s⟩
/-- Whole payloads, then bytes in which none stands: what is read. -/
theorem scan_pays {ts : List (List Nat)} (h : Fits ts) (hl : ts.length ≤ 1099511627776) (B : List Nat) (hB : whole B = none) : scan (recsL 0 (pays ts) ++ B) = pays ts := by
  unfold scan
  refine scanF_recs B _ 0 _ (by rw [length_pays]; omega) (fun p hp => (pay_le h p hp).1) ?_ (fun q hq => by rw [hB] at hq; cases hq)
  have h1 := lens_ge (pays ts)
  rw [List.length_append, length_recsL]
  omega
theorem verErr_whole {ts : List (List Nat)} (h : Fits ts) (hl : ts.length ≤ 1099511627776) : verErr (recsL 0 (pays ts)) = 0 := by
  have e := scan_pays h hl [] whole_nil
  rw [List.append_nil] at e
  unfold verErr
  rw [e, au_pays]
  rw [if_neg, if_neg (by simp)]
  rw [length_recsL]
  rintro (h1 | h1)
  · exact h1 (okP_pays h)
  · omega
/-- Whatever cuts the whole records short: some of the payloads, and bytes in which none stands. -/
theorem cut_recs : ∀ (ps : List (List Nat)) (k : Nat), (∀ p ∈ ps, p.length ≤ 16384) → ∀ at_, at_ < lens ps → ∃ j B, j < ps.length ∧ (recsL k ps).take at_ = recsL k (ps.take j) ++ B ∧ whole B = none
  | [], _, _, _, h => by cases h
  | p :: ps, k, hp, at_, h => by
    by_cases hc : at_ < 19 + p.length
    · refine ⟨0, (recL (k + 1) p).take at_, by simp, ?_, whole_cut _ _ (hp p List.mem_cons_self) _ hc⟩
      show (recL (k + 1) p ++ recsL (k + 1) ps).take at_ = [] ++ _
      rw [List.take_append_of_le_length (by rw [length_recL]; omega), List.nil_append]
    · obtain ⟨j, B, hj, he, hB⟩ := cut_recs ps (k + 1) (fun q hq => hp q (List.mem_cons_of_mem _ hq)) (at_ - (19 + p.length)) (by unfold lens at h; omega)
      refine ⟨j + 1, B, by simp; omega, ?_, hB⟩
      show (recL (k + 1) p ++ recsL (k + 1) ps).take at_ = (recL (k + 1) p ++ recsL (k + 1) (ps.take j)) ++ B
      rw [List.take_append, List.take_of_length_le (by rw [length_recL]; omega), length_recL, he, List.append_assoc]
theorem lens_take_le (ps : List (List Nat)) : ∀ j, lens (ps.take j) ≤ lens ps := by
  induction ps with
  | nil => intro j; simp
  | cons p ps ih => intro j; cases j with
    | zero => exact Nat.zero_le _
    | succ j => have := ih j; simp only [List.take_succ_cons, lens]; omega
/-- A file that is cut short anywhere: fewer texts, or refused. -/
theorem verErr_cut {ts : List (List Nat)} (h : Fits ts) (hl : ts.length ≤ 1099511627776) (at_ : Nat) (ha : at_ < lens (pays ts)) :
    (verErr ((recsL 0 (pays ts)).take at_) = 0 ∨ verErr ((recsL 0 (pays ts)).take at_) = 190) ∧ ∃ j, j < ts.length ∧ scan ((recsL 0 (pays ts)).take at_) = pays (ts.take j) := by
  obtain ⟨j, B, hj, he, hB⟩ := cut_recs (pays ts) 0 (fun p hp => (pay_le h p hp).1) at_ ha
  rw [length_pays] at hj
  rw [take_pays] at he
  have e := scan_pays (h.take j) (by rw [List.length_take]; omega) B hB
  rw [he]
  refine ⟨?_, j, hj, e⟩
  unfold verErr
  rw [e, au_pays]
  split
  · exact .inr rfl
  · rw [if_neg (by simp)]; exact .inl rfl
end Go.Proofs.YtilpbjcbffbjeaaGreatDoor
