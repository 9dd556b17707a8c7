/- The audit's Verify of a file of texts, whole, with more behind it, cut short. -/
import Derived.Test.YtilpbjcbffbjeaaGreatDoorASt
namespace Go.Proofs.YtilpbjcbffbjeaaGreatDoor
set_option linter.unusedVariables false
set_option maxRecDepth 100000
open Go.RowKit
theorem recsL_lt : ∀ (ps : List (List Nat)) (k : Nat), (∀ p ∈ ps, ∀ c ∈ p, c < 256) → ∀ c ∈ recsL k ps, c < 256
  | [], _, _, _, h => by cases h
  | p :: ps, k, hp, c, h => by
    rcases List.mem_append.1 h with h | h
    · exact recL_lt _ _ (hp p List.mem_cons_self) c h
    · exact recsL_lt ps (k + 1) (fun q hq => hp q (List.mem_cons_of_mem _ hq)) c h
/-- The file of texts. -/
def fileS (ss : List ByteArray) : ByteArray := strOf (recsL 0 (pays (ss.map bs)))
theorem bs_fileS {ss : List ByteArray} (h : ∀ s ∈ ss, s.size ≤ 1024) : bs (fileS ss) = recsL 0 (pays (ss.map bs)) :=
  bs_strOf _ (recsL_lt _ _ (fun p hp => (pay_le (fits_map h) p hp).2))
theorem size_fileS (ss : List ByteArray) : (fileS ss).size = zT ss := by unfold fileS zT; rw [size_strOf, length_recsL]
theorem averAll (ss : List ByteArray) (w : World) (h : ∀ s ∈ ss, s.size ≤ 1024) (hz : zT ss ≤ 262144) :
    Calls Tryz.prog 27 #[.string (fileS ss)] w fun e w' => ∃ p, e = .returned (.tuple #[.slice p ss.length ss.length, .string (strOf (linkL (ss.map bs))), .int .i64 0]) ∧ Strs w' (.slice p ss.length ss.length) ss ∧ Below w.heap.size w w' := by
  have hg := lens_pays_ge ss
  have hg' : 19 * ss.length ≤ zT ss := hg
  have hsc : Go.Proofs.YtilpbjcbffbjeaaGreatDoor.scan (bs (fileS ss)) = pays (ss.map bs) := by
    have e := scan_pays (fits_map h) (by rw [List.length_map]; omega) [] whole_nil
    rw [List.append_nil] at e
    rw [bs_fileS h]; exact e
  refine (averG (fileS ss) w (by rw [size_fileS]; omega) (.inl (by rw [hsc, au_pays]; exact ⟨okP_pays (fits_map h), rfl⟩))).mono ?_
  rintro e w' (⟨hne, _⟩ | ⟨p, _, _, _, _, rfl, hs, hb⟩)
  · exact absurd (by rw [bs_fileS h]; exact verErr_whole (fits_map h) (by rw [List.length_map]; omega)) hne
  · rw [hsc, length_pays, List.length_map, txts_pays] at hs
    rw [hsc, length_pays, List.length_map, au_pays]
    exact ⟨p, rfl, hs, hb⟩
theorem averBad (s : ByteArray) (w : World) (hs : s.size ≤ 1048576) (hP : (∀ p ∈ scan (bs s), okP p) ∧ (au (scan (bs s))).2.2 = none) (hlt : lens (scan (bs s)) < s.size) :
    Calls Tryz.prog 27 #[.string s] w fun e w' => e = .returned (.tuple #[.slice none 0 0, .string ⟨#[]⟩, .int .i64 190]) ∧ Below w.heap.size w w' := by
  have hv : verErr (bs s) = 190 := by unfold verErr; rw [if_pos (.inr (by rw [length_bs]; exact hlt))]
  refine (averG s w hs (.inl hP)).mono ?_
  rintro e w' (⟨_, rfl, hb⟩ | ⟨p, h0, _⟩)
  · rw [hv]; exact ⟨rfl, hb⟩
  · rw [hv] at h0; exact absurd h0 (by decide)
theorem averMore (ss : List ByteArray) (s : ByteArray) (w : World) (h : ∀ s ∈ ss, s.size ≤ 1024) (hz : zT ss ≤ 262144) (hs : s.size ≤ 1024) (h0 : 0 < s.size) (hB : whole (bs s) = none) :
    Calls Tryz.prog 27 #[.string (fileS ss ++ s)] w fun e w' => e = .returned (.tuple #[.slice none 0 0, .string ⟨#[]⟩, .int .i64 190]) ∧ Below w.heap.size w w' := by
  have hg : 19 * ss.length ≤ zT ss := lens_pays_ge ss
  have hsc : Go.Proofs.YtilpbjcbffbjeaaGreatDoor.scan (bs (fileS ss ++ s)) = pays (ss.map bs) := by
    rw [bs_append, bs_fileS h]
    exact scan_pays (fits_map h) (by rw [List.length_map]; omega) _ hB
  refine averBad _ w (by rw [ByteArray.size_append, size_fileS]; omega) (by rw [hsc, au_pays]; exact ⟨okP_pays (fits_map h), rfl⟩) ?_
  rw [hsc, ByteArray.size_append, size_fileS]
  show zT ss < _
  omega
/-- A file cut short: fewer texts, or refused. -/
theorem averCut (ss : List ByteArray) (a : Nat) (w : World) (h : ∀ s ∈ ss, s.size ≤ 1024) (hz : zT ss ≤ 262144) (ha : a < zT ss) :
    Calls Tryz.prog 27 #[.string ((fileS ss).extract 0 a)] w fun e w' => (e = .returned (.tuple #[.slice none 0 0, .string ⟨#[]⟩, .int .i64 190]) ∨ ∃ p n s, n < ss.length ∧ e = .returned (.tuple #[.slice p n n, .string s, .int .i64 0])) ∧ Below w.heap.size w w' := by
  have hg : 19 * ss.length ≤ zT ss := lens_pays_ge ss
  have hbs : bs ((fileS ss).extract 0 a) = (recsL 0 (pays (ss.map bs))).take a := by rw [bs_extract, bs_fileS h, List.drop_zero, Nat.sub_zero]
  obtain ⟨hv, j, hj, hsc⟩ := verErr_cut (fits_map h) (by rw [List.length_map]; omega) a ha
  rw [List.length_map] at hj
  rw [← hbs] at hv hsc
  have hfj : Fits ((ss.map bs).take j) := (fits_map h).take j
  have hn : (Go.Proofs.YtilpbjcbffbjeaaGreatDoor.scan (bs ((fileS ss).extract 0 a))).length = j := by rw [hsc, length_pays, List.length_take, List.length_map]; omega
  refine (averG _ w (by rw [ByteArray.size_extract, size_fileS]; omega) (.inl (by rw [hsc, au_pays]; exact ⟨okP_pays hfj, rfl⟩))).mono ?_
  rintro e w' (⟨hne, rfl, hb⟩ | ⟨p, h0, _, _, _, rfl, _, hb⟩)
  · rcases hv with h1 | h1
    · exact absurd h1 hne
    · rw [h1]; exact ⟨.inl rfl, hb⟩
  · rw [hn]
    exact ⟨.inr ⟨p, j, _, hj, rfl⟩, hb⟩
section
variable {B b g cap lb f k : Nat} {w0 w w' : World} {quota : Int} {ss : List ByteArray} {D D' : Dk}
theorem ASt.rdF (h : ASt B w0 b g cap lb f quota ss k D w) : rd (D.l.getD f Fl.zero) = fileS ss := by unfold rd fileS; rw [h.ac.rdL]
theorem ASt.readF (h : ASt B w0 b g cap lb f quota ss k D w) : Calls Tryz.prog 33 #[.pointer (some ⟨b, 0, none⟩), .int .i64 (f : Nat)] w fun e w' => e = .returned (.tuple #[.string (fileS ss), .int .i64 0]) ∧ Below w.heap.size w w' := h.read
theorem ASt.verify (h : ASt B w0 b g cap lb f quota ss k D w) (u : World) :
    Calls Tryz.prog 27 #[.string (fileS ss)] u fun e w' => ∃ p, e = .returned (.tuple #[.slice p ss.length ss.length, .string (strOf (linkL (ss.map bs))), .int .i64 0]) ∧ Strs w' (.slice p ss.length ss.length) ss ∧ Below u.heap.size u w' :=
  averAll ss u h.ac.fit h.z
end
end Go.Proofs.YtilpbjcbffbjeaaGreatDoor
