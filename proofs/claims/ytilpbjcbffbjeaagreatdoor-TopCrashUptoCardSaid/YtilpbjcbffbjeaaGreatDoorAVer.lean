/- The audit's Verify. -/
import Derived.Test.YtilpbjcbffbjeaaGreatDoorATold2
import Derived.Test.YtilpbjcbffbjeaaGreatDoorPkD
namespace Go.Proofs.YtilpbjcbffbjeaaGreatDoor
set_option linter.unusedVariables false
set_option maxRecDepth 100000
open Go.RowKit
theorem lens_scanF : ∀ (f : Nat) (m : List Nat) (k : Nat), (∀ c ∈ m, c < 256) → lens (scanF f m k) ≤ m.length := by
  intro f
  induction f with
  | zero => intro m k _; exact Nat.zero_le _
  | succ f ih =>
    intro m k hm
    by_cases h : ∃ p, whole m = some (k + 1, p)
    · obtain ⟨p, hp⟩ := h
      have h1 := length_whole hm hp
      have h2 := ih (m.drop (19 + p.length)) (k + 1) (fun c hc => hm c (List.mem_of_mem_drop hc))
      rw [scanF_step hp, lens]
      rw [List.length_drop] at h2
      omega
    · rw [scanF_stop (fun p hp => h ⟨p, hp⟩)]; exact Nat.zero_le _
theorem lens_scan (m : List Nat) (hm : ∀ c ∈ m, c < 256) : lens (scan m) ≤ m.length := lens_scanF _ _ _ hm
theorem errT_lt {w : World} (h : ErrT w) : 0 < w.heap.size := by
  rcases Nat.eq_zero_or_pos w.heap.size with h0 | h1
  · simp [ErrT, World.cell?, h0] at h
  · exact h1
theorem errT_below {w w' : World} {B : Nat} (h : ErrT w) (hb : Below B w w') (hB : 0 < B) : ErrT w' := (hb.cell (p := ⟨0, 0, none⟩) hB).trans h
/-- The texts. -/
def txts (ps : List (List Nat)) : List ByteArray := ps.map fun p => strOf (txt p)
theorem strs_row {w w' : World} {base : Nat} {p : Option Addr} {cap K c : Nat} {ps : List (List Nat)} (h : w.ownsRow base 9 1 (.slice p K cap) K (texts ps)) (hK : ps.length = K) (hb : Below w.heap.size w w') : Strs w' (.slice p K c) (txts ps) := by
  have hl : (txts ps).length = K := by unfold txts; rw [List.length_map, hK]
  rw [← hl]
  refine Strs.mk fun i hi => ?_
  rcases h.2 with ⟨h1, h2⟩ | ⟨g, cp, cur, h1, _, hg, _⟩
  · omega
  · simp only [Value.slice.injEq] at h1
    obtain ⟨rfl, _, rfl⟩ := h1
    refine ⟨g, 0, rfl, ?_⟩
    have hc := h.cells (g := g) rfl i (.string ((txts ps).getD i ByteArray.empty)) (by
      unfold texts txts at *
      rw [List.getElem?_map, List.getD_eq_getElem?_getD, List.getElem?_map]
      rw [List.length_map] at hi
      rw [List.getElem?_eq_getElem hi]; rfl)
    have hlt : g < w.heap.size := (Array.getElem?_eq_some_iff.1 hg).1
    have e : ((⟨g, 0, none⟩ : Addr).add i) = ⟨g, i, none⟩ := by
      by_cases h : i = 0
      · subst h; rfl
      · simp [Addr.add, h]
    rw [e] at hc
    rw [Nat.zero_add]
    exact (hb.cell (p := ⟨g, i, none⟩) hlt).trans hc
open Classical in
/-- What bytes are verified as: texts and the last link; or what is wrong. -/
noncomputable def verErr (m : List Nat) : Int :=
  if (¬ ∀ p ∈ scan m, okP p) ∨ lens (scan m) < m.length then 190 else if (au (scan m)).2.2 ≠ none then 192 else 0
def VerPost (s : ByteArray) (w : World) (e : Ending) (w' : World) : Prop :=
  (verErr (bs s) ≠ 0 ∧ e = .returned (.tuple #[.slice none 0 0, .string ⟨#[]⟩, .int .i64 (verErr (bs s))]) ∧ Below w.heap.size w w') ∨
  (∃ p, verErr (bs s) = 0 ∧ (∀ p ∈ scan (bs s), okP p) ∧ lens (scan (bs s)) = s.size ∧ (au (scan (bs s))).2.2 = none ∧
    e = .returned (.tuple #[.slice p (scan (bs s)).length (scan (bs s)).length, .string (strOf (au (scan (bs s))).1), .int .i64 0]) ∧
    Strs w' (.slice p (scan (bs s)).length (scan (bs s)).length) (txts (scan (bs s))) ∧ Below w.heap.size w w')
set_option maxHeartbeats 1000000 in
theorem averG (s : ByteArray) (w : World) (hs : s.size ≤ 1048576) (hgl : ((∀ p ∈ scan (bs s), okP p) ∧ (au (scan (bs s))).2.2 = none) ∨ ErrT w) : Calls Tryz.prog 27 #[.string s] w (VerPost s w) := by
  have H := Lib.hid (areadW s w hs)
  go_enter Tryz.func27, Tryz.ntmps27
  go_wp2_with fail
  refine H.out.mono ?_
  intro e w1 hr
  have hl := lens_scan (bs s) (bs_lt s)
  rw [length_bs] at hl
  rcases hr with ⟨i, h1, rfl, hb⟩ | ⟨v, h1, rfl, hrow, hnil, hb⟩
  · have hv : verErr (bs s) = 190 := by unfold verErr; rw [if_pos (.inl h1)]
    have hgl' : ErrT w := hgl.resolve_left (fun h => h1 h.1)
    have HT := Lib.hid (atoldW wordF i 190 w1 (errT_below hgl' hb (errT_lt hgl')))
    clear hgl'
    have HV := Lib.hid hv
    have HB := Lib.hid hb
    clear hv hb h1 hgl hl
    unfold formV
    go_wp2_with fail
    refine HT.out.mono ?_
    rintro e w2 ⟨rfl, hb2⟩
    go_wp2_with fail
    refine bodyPost_ret (results_tmp3 rfl _ _ _) rfl ?_
    exact .inl ⟨by rw [HV.out]; decide, by rw [HV.out]; rfl, HB.out.trans (hb2.mono HB.out.size)⟩
  · obtain ⟨p, cap, rfl⟩ := rowShape hrow
    obtain ⟨N, hN⟩ : ∃ N, lens (scan (bs s)) = N := ⟨_, rfl⟩
    obtain ⟨o, ho⟩ : ∃ o, (au (scan (bs s))).2.2 = o := ⟨_, rfl⟩
    obtain ⟨L, hL⟩ : ∃ L, strOf (au (scan (bs s))).1 = L := ⟨_, rfl⟩
    obtain ⟨K, hK⟩ : ∃ K, (scan (bs s)).length = K := ⟨_, rfl⟩
    have hcap : K ≤ cap ∧ cap ≤ 9223372036854775807 := by
      rw [← hK]
      rcases hrow.2 with ⟨h, h2⟩ | ⟨g, cp, cur, h, _, _, hc1, hc2, _⟩
      · simp only [Value.slice.injEq] at h; omega
      · simp only [Value.slice.injEq] at h
        have : maxLen ≤ 9223372036854775807 := by decide
        omega
    have HT : ∀ w1, Below w.heap.size w w1 → Calls Tryz.prog 55 #[chainV o] w1 fun ev w' => ev = .returned (.int .i64 (if o = none then 0 else 192)) ∧ Below w1.heap.size w1 w' := by
      intro w1 hb
      rcases o with _ | i
      · exact atoldNil w1
      · have hgl' : ErrT w := hgl.resolve_left (fun h => by rw [ho] at h; cases h.2)
        exact atoldW wordC i 192 w1 (errT_below hgl' hb (errT_lt hgl'))
    have HTT := Lib.hid (HT w1 hb)
    have HCL := Lib.hid (fun w => clipW p K cap w hcap.1 hcap.2)
    rw [hN, ho, hL, hK]
    rw [hN] at hl
    rw [hK] at hrow
    have HB := Lib.hid hb
    have HR := Lib.hid hrow
    have HN := Lib.hid hN
    have HO := Lib.hid ho
    have HLL := Lib.hid hL
    have HKK := Lib.hid hK
    have H1 := Lib.hid h1
    clear HT hcap hgl hb hrow hN ho hL hK h1 hnil H
    obtain ⟨ec, hec⟩ : ∃ ec : Int, (if o = none then 0 else 192) = ec := ⟨_, rfl⟩
    rw [hec] at HTT
    have HEC := Lib.hid hec
    clear hec
    by_cases hlt : N < s.size
    · have hv : verErr (bs s) = 190 := by unfold verErr; rw [if_pos (.inr (by rw [HN.out, length_bs]; exact hlt))]
      have HV := Lib.hid hv
      clear hv
      have hlt' : (N : Int) < (s.size : Int) := by omega
      have hne : ec ≠ 190 := by rw [← HEC.out]; split <;> decide
      go_wp2_with fail
      refine HTT.out.mono ?_
      rintro e w2 ⟨rfl, hb2⟩
      go_wp2_with fail
      refine bodyPost_ret (results_tmp3 rfl _ _ _) rfl ?_
      exact .inl ⟨by rw [HV.out]; decide, by rw [HV.out]; rfl, HB.out.trans (hb2.mono HB.out.size)⟩
    · have hNs : N = s.size := by omega
      have hlt' : ¬ (N : Int) < (s.size : Int) := by omega
      rcases o with _ | i
      · have hv : verErr (bs s) = 0 := by unfold verErr; rw [if_neg (by rw [HN.out, length_bs]; intro h; rcases h with h | h; exact h H1.out; exact hlt h), if_neg (by rw [HO.out]; simp)]
        have HV := Lib.hid hv
        have h0 : ec = 0 := HEC.out.symm
        have HNS := Lib.hid hNs
        clear hv hNs hl hlt
        subst h0
        go_wp2_with fail
        refine HTT.out.mono ?_
        rintro e w2 ⟨rfl, hb2⟩
        go_wp2_with fail
        refine (HCL.out _).mono ?_
        rintro e w3 ⟨rfl, rfl⟩
        go_wp2_with fail
        refine bodyPost_ret (results_tmp3 rfl _ _ _) rfl ?_
        refine .inr ⟨p, HV.out, H1.out, by rw [HN.out, HNS.out], HO.out, by rw [HKK.out, HLL.out]; rfl, ?_, HB.out.trans (hb2.mono HB.out.size)⟩
        rw [HKK.out]; exact strs_row HR.out HKK.out hb2
      · have hv : verErr (bs s) = 192 := by unfold verErr; rw [if_neg (by rw [HN.out, length_bs]; intro h; rcases h with h | h; exact h H1.out; exact hlt h), if_pos (by rw [HO.out]; simp)]
        have HV := Lib.hid hv
        have h0 : ec = 192 := HEC.out.symm
        clear hv hNs hl hlt
        subst h0
        go_wp2_with fail
        refine HTT.out.mono ?_
        rintro e w2 ⟨rfl, hb2⟩
        go_wp2_with fail
        refine bodyPost_ret (results_tmp3 rfl _ _ _) rfl ?_
        exact .inl ⟨by rw [HV.out]; decide, by rw [HV.out]; rfl, HB.out.trans (hb2.mono HB.out.size)⟩
theorem averW (s : ByteArray) (w : World) (hs : s.size ≤ 1048576) (hgl : ErrT w) : Calls Tryz.prog 27 #[.string s] w (VerPost s w) := averG s w hs (.inr hgl)
end Go.Proofs.YtilpbjcbffbjeaaGreatDoor
