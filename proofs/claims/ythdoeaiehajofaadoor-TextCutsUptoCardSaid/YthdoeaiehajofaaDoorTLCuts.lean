/- The law TextCuts, walked. -/
import Derived.Test.YthdoeaiehajofaaDoorTFixed
import Derived.Test.YthdoeaiehajofaaDoorRU
namespace Go.Proofs.YthdoeaiehajofaaDoor
set_option linter.unusedVariables false
set_option maxRecDepth 100000
open Go.RowKit
namespace U
theorem enc_head (n : Nat) : (enc n).getD 0 0 < 128 ∨ 192 ≤ (enc n).getD 0 0 := by
  unfold enc
  split
  · left; simpa
  split
  · right; simp
  split
  · right; simp; omega
  · right; simp; omega
theorem enc_tail (n i : Nat) (h0 : 0 < i) (h1 : i < (enc n).length) : 128 ≤ (enc n).getD i 0 ∧ (enc n).getD i 0 < 192 := by
  revert h1
  unfold enc
  split
  · intro h1; simp at h1; omega
  split
  · intro h1; simp at h1; obtain rfl : i = 1 := (by omega); simp; omega
  split
  · intro h1; simp at h1; rcases (show i = 1 ∨ i = 2 by omega) with rfl | rfl <;> simp <;> omega
  · intro h1; simp at h1; rcases (show i = 1 ∨ i = 2 ∨ i = 3 by omega) with rfl | rfl | rfl <;> simp <;> omega
theorem getD_append_l (a b : List Nat) (i : Nat) (h : i < a.length) : (a ++ b).getD i 0 = a.getD i 0 := by
  rw [List.getD_eq_getElem?_getD, List.getD_eq_getElem?_getD, List.getElem?_append_left h]
theorem getD_append_r (a b : List Nat) (i : Nat) (h : a.length ≤ i) : (a ++ b).getD i 0 = b.getD (i - a.length) 0 := by
  rw [List.getD_eq_getElem?_getD, List.getD_eq_getElem?_getD, List.getElem?_append_right h]
/-- Where a rune begins. -/
def beg (l : List Nat) (c : Nat) : Prop := c = l.length ∨ l.getD c 0 < 128 ∨ 192 ≤ l.getD c 0
theorem cut_begins : ∀ (rs l : List Nat) (c : Nat), Is l rs → c ≤ l.length → beg l c → ∃ a b, Is (l.take c) a ∧ Is (l.drop c) b
  | [], l, c, h, hc, _ => by
    have := h.1
    rw [encs_nil] at this
    subst this
    exact ⟨[], [], by simp [Is.nil], by simp [Is.nil]⟩
  | r :: rs, l, c, h, hc, hb => by
    have hl := h.1
    rw [encs_cons] at hl
    have hrs : Is (encs rs) rs := ⟨rfl, fun x hx => h.2 x (by simp [hx])⟩
    rcases Nat.eq_zero_or_pos c with h0 | h0
    · subst h0
      exact ⟨[], r :: rs, by simp [Is.nil], by simpa using h⟩
    · rcases Nat.lt_or_ge c (enc r).length with h1 | h1
      · have h2 := enc_tail r c h0 h1
        rw [← getD_append_l (enc r) (encs rs) c h1, ← hl] at h2
        have h3 : c < l.length := by rw [hl, List.length_append]; omega
        rcases hb with hb | hb | hb <;> omega
      · have h2 : beg (encs rs) (c - (enc r).length) := by
          rcases hb with hb | hb | hb
          · left; rw [hb, hl, List.length_append]; omega
          · right; left; rw [hl, getD_append_r _ _ _ h1] at hb; exact hb
          · right; right; rw [hl, getD_append_r _ _ _ h1] at hb; exact hb
        obtain ⟨a, b, ha, hb2⟩ := cut_begins rs (encs rs) (c - (enc r).length) hrs (by rw [hl, List.length_append] at hc; omega) h2
        refine ⟨r :: a, b, ?_, ?_⟩
        · rw [hl, List.take_append, List.take_of_length_le h1]
          exact Is.append (rs := [r]) ⟨by simp [encs], by simpa using h.2 r (by simp)⟩ ha
        · rw [hl, List.drop_append, List.drop_eq_nil_of_le h1]; simpa using hb2
theorem no_drop {l : List Nat} {c : Nat} (hc : c ≤ l.length) (hb : ¬ beg l c) (ts : List Nat) : ¬ Is (l.drop c) ts := by
  intro h
  have hlt : c < l.length := by
    rcases Nat.lt_or_ge c l.length with h | h
    · exact h
    · exact absurd (.inl (by omega)) hb
  cases ts with
  | nil =>
    have := congrArg List.length h.1
    rw [List.length_drop, encs_nil] at this
    simp at this; omega
  | cons t ts =>
    have e := congrArg (fun x => x.getD 0 0) h.1
    simp only [encs_cons] at e
    rw [getD_drop, Nat.add_zero, getD_append_l _ _ _ (enc_length t).1] at e
    have := enc_head t
    exact hb (.inr (by omega))
theorem no_take {l rs : List Nat} {c : Nat} (h : Is l rs) (hc : c ≤ l.length) (hb : ¬ beg l c) (ts : List Nat) : ¬ Is (l.take c) ts := by
  intro h1
  have e : l = encs ts ++ l.drop c := by rw [← h1.1, List.take_append_drop]
  rw [e] at h
  obtain ⟨us, _, h2⟩ := Is.cancel h1.2 h
  exact no_drop hc hb us h2
/-- Is it UTF-8? -/
noncomputable def isB (l : List Nat) : Bool := @decide (∃ rs, Is l rs) (Classical.propDecidable _)
theorem isB_yes {l rs : List Nat} (h : Is l rs) : isB l = true := by unfold isB; rw [@decide_eq_true_iff _ (Classical.propDecidable _)]; exact ⟨rs, h⟩
theorem isB_no {l : List Nat} (h : ∀ rs, ¬ Is l rs) : isB l = false := by unfold isB; rw [@decide_eq_false_iff_not _ (Classical.propDecidable _)]; rintro ⟨rs, hr⟩; exact h rs hr
theorem isB_true {l : List Nat} (h : isB l = true) : ∃ rs, Is l rs := by unfold isB at h; rwa [@decide_eq_true_iff _ (Classical.propDecidable _)] at h
theorem isB_false {l : List Nat} (h : isB l = false) : ∀ rs, ¬ Is l rs := by
  unfold isB at h; rw [@decide_eq_false_iff_not _ (Classical.propDecidable _)] at h; exact fun rs hr => h ⟨rs, hr⟩
end U
theorem utf8B (s : ByteArray) (w : World) (hgl : Glob w) (hs : s.size ≤ 16777216) : Calls Tryd.prog 18 #[.string s] w fun e w' => e = .returned (.bool (U.isB (bs s))) ∧ Below w.heap.size w w' := by
  refine (utf8W s w hgl hs).mono ?_
  rintro e w' ⟨hb, ⟨rs, h1, rfl⟩ | ⟨h1, rfl⟩⟩
  · exact ⟨by rw [U.isB_yes h1], hb⟩
  · exact ⟨by rw [U.isB_no h1], hb⟩
set_option maxHeartbeats 4000000 in
theorem cutsLaw (s : ByteArray) (z : Int) (w : World) (hgl : Glob w) (hs : s.size ≤ 16777216) :
    Calls Tryd.prog 7 #[.string s, .int .i64 z] w fun e w' => e = .returned (.bool true) ∧ Below w.heap.size w w' := by
  have HG := Lib.hid hgl
  have HLT := Lib.hid hgl.lt
  obtain ⟨q, hq⟩ : ∃ q, U.isB (bs s) = q := ⟨_, rfl⟩
  have HU : Hid (∀ u, Below w.heap.size w u → Calls Tryd.prog 18 #[.string s] u fun e w' => e = .returned (.bool q) ∧ Below w.heap.size w w') := fun u hu => by
    rw [← hq]
    refine (utf8B s u (HG.out.below hu HLT.out) hs).mono ?_
    rintro e w' ⟨rfl, hb⟩
    exact ⟨rfl, hu.trans (hb.mono hu.size)⟩
  have HQ := Lib.hid hq
  clear hgl hq
  by_cases hout : q = false ∨ z < 0 ∨ (s.size : Int) < z
  · cases q
    · clear hout
      go_enter Tryd.func7, Tryd.ntmps7
      go_wp2_with fail
      refine (fixedW w HG.out).mono ?_
      rintro e w1 ⟨rfl, hb⟩
      have HB1 := Lib.hid hb
      clear hb
      go_wp2_with fail
      refine (HU.out w1 HB1.out).mono ?_
      rintro e w2 ⟨rfl, hb⟩
      have HB2 := Lib.hid hb
      clear hb
      go_wp2_with fail
      go_ret
      exact ⟨rfl, HB2.out⟩
    · by_cases hz : z < 0
      · clear hout
        go_enter Tryd.func7, Tryd.ntmps7
        go_wp2_with fail
        refine (fixedW w HG.out).mono ?_
        rintro e w1 ⟨rfl, hb⟩
        have HB1 := Lib.hid hb
        clear hb
        go_wp2_with fail
        refine (HU.out w1 HB1.out).mono ?_
        rintro e w2 ⟨rfl, hb⟩
        have HB2 := Lib.hid hb
        clear hb
        go_wp2_with fail
        go_ret
        exact ⟨rfl, HB2.out⟩
      · have hz2 : (s.size : Int) < z := by rcases hout with h | h | h <;> first | exact absurd h (by decide) | omega
        clear hout
        go_enter Tryd.func7, Tryd.ntmps7
        go_wp2_with fail
        refine (fixedW w HG.out).mono ?_
        rintro e w1 ⟨rfl, hb⟩
        have HB1 := Lib.hid hb
        clear hb
        go_wp2_with fail
        refine (HU.out w1 HB1.out).mono ?_
        rintro e w2 ⟨rfl, hb⟩
        have HB2 := Lib.hid hb
        clear hb
        go_wp2_with fail
        go_ret
        exact ⟨rfl, HB2.out⟩
  · obtain ⟨c, rfl⟩ : ∃ c : Nat, z = c := ⟨z.toNat, by omega⟩
    have hc : c ≤ s.size := by omega
    cases q
    · exact absurd (.inl rfl) hout
    clear hout
    obtain ⟨t0, ht0⟩ : ∃ t, t = s.extract 0 c := ⟨_, rfl⟩
    obtain ⟨t1, ht1⟩ : ∃ t, t = s.extract c s.size := ⟨_, rfl⟩
    have hcut0 : ∀ w, (Instr.slice 9 (.string s) none (some (.int .i64 (c : Int))) none).run Tryd.prog w = .ok (.string t0) w := fun w => by rw [ht0]; exact cutTo s _ c rfl hc w
    have hcut1 : ∀ w, (Instr.slice 9 (.string s) (some (.int .i64 (c : Int))) none none).run Tryd.prog w = .ok (.string t1) w := fun w => by rw [ht1]; exact cutFrom s _ c rfl hc w
    have hb0 : bs t0 = (bs s).take c := by rw [ht0, bs_extract, List.drop_zero, Nat.sub_zero]
    have hb1 : bs t1 = (bs s).drop c := by rw [ht1, bs_from]
    have hs0 : t0.size ≤ 16777216 := by rw [ht0, ByteArray.size_extract]; omega
    have hs1 : t1.size ≤ 16777216 := by rw [ht1, ByteArray.size_extract]; omega
    obtain ⟨b, hbeg⟩ : ∃ b : Bool, b = true ↔ U.beg (bs s) c := ⟨@decide (U.beg (bs s) c) (Classical.propDecidable _), by rw [@decide_eq_true_iff _ (Classical.propDecidable _)]⟩
    have hcl : c ≤ (bs s).length := by rw [length_bs]; exact hc
    have e0 : U.isB (bs t0) = b ∧ U.isB (bs t1) = b := by
      obtain ⟨rs, hrs⟩ := U.isB_true HQ.out
      rw [hb0, hb1]
      cases b
      · have hn : ¬ U.beg (bs s) c := fun h => absurd (hbeg.2 h) (by decide)
        exact ⟨U.isB_no (U.no_take hrs hcl hn), U.isB_no (U.no_drop hcl hn)⟩
      · obtain ⟨x, y, h1, h2⟩ := U.cut_begins rs _ c hrs hcl (hbeg.1 rfl)
        exact ⟨U.isB_yes h1, U.isB_yes h2⟩
    have H0 : Hid (∀ u, Below w.heap.size w u → Calls Tryd.prog 18 #[.string t0] u fun e w' => ∃ v, e = .returned v ∧ (v = .bool b ∧ Below w.heap.size w w')) := fun u hu => by
      refine (utf8B t0 u (HG.out.below hu HLT.out) hs0).mono ?_
      rintro e w' ⟨rfl, hb⟩
      exact ⟨_, rfl, by rw [e0.1], hu.trans (hb.mono hu.size)⟩
    have H1 : Hid (∀ u, Below w.heap.size w u → Calls Tryd.prog 18 #[.string t1] u fun e w' => ∃ v, e = .returned v ∧ (v = .bool b ∧ Below w.heap.size w w')) := fun u hu => by
      refine (utf8B t1 u (HG.out.below hu HLT.out) hs1).mono ?_
      rintro e w' ⟨rfl, hb⟩
      exact ⟨_, rfl, by rw [e0.2], hu.trans (hb.mono hu.size)⟩
    have HBEG := Lib.hid hbeg
    clear ht0 ht1 hb0 hb1 hs0 hs1 e0 hbeg hcl
    by_cases hce : c = s.size
    · have hb : b = true := HBEG.out.2 (.inl (by rw [length_bs]; exact hce))
      have hcc : ((c : Int) == (s.size : Int)) = true := by rw [hce]; exact beq_self_eq_true _
      subst hb
      clear hce
      go_enter Tryd.func7, Tryd.ntmps7
      go_wp2_with fail
      refine (fixedW w HG.out).mono ?_
      rintro e w1 ⟨rfl, hb⟩
      have HB1 := Lib.hid hb
      clear hb
      go_wp2_with fail
      refine (HU.out w1 HB1.out).mono ?_
      rintro e w2 ⟨rfl, hb⟩
      have HB2 := Lib.hid hb
      clear hb
      go_wp2_with fail
      refine wp_region_U 9 (fun u => Below w.heap.size w u) (by kernel_rfl) ?_
      change wpAnyU _ _ _ _ _ _ 10 (Array.replicate 10 false) _ _
      have HD := Lib.hid HB2.out.drew
      refine takeU 0 (v := ?_) rfl (by kernel_rfl) (by kernel_rfl) (fun _ _ _ h => h) rfl (fun u hu => ?_) HD.out ?_
      rotate_left
      · skip; go_simp <;> with_reducible rfl
      simp only [Act.put, List.setIfInBounds_toArray, List.set_cons_zero, List.set_cons_succ]
      refine takeU 1 (v := ?_) rfl (by kernel_rfl) (by kernel_rfl) (fun _ _ _ h => h) rfl (fun u hu => ?_) HD.out ?_
      rotate_left
      · skip; go_simp <;> with_reducible rfl
      simp only [Act.put, List.setIfInBounds_toArray, List.set_cons_zero, List.set_cons_succ]
      refine takeU 2 (v := ?_) rfl (by kernel_rfl) (by kernel_rfl) (fun _ _ _ h => h) rfl (fun u hu => ?_) HD.out ?_
      rotate_left
      · skip; go_simp <;> with_reducible rfl
      simp only [Act.put, List.setIfInBounds_toArray, List.set_cons_zero, List.set_cons_succ]
      refine takeU 4 (v := ?_) rfl (by kernel_rfl) (by kernel_rfl) (fun _ _ _ h => h) rfl (fun u hu => ?_) HD.out ?_
      rotate_left
      · skip; go_simp <;> with_reducible rfl
      simp only [Act.put, List.setIfInBounds_toArray, List.set_cons_zero, List.set_cons_succ]
      refine takeU 5 (v := ?_) rfl (by kernel_rfl) (by kernel_rfl) (fun _ _ _ h => h) rfl (fun u hu => ?_) HD.out ?_
      rotate_left
      · skip; go_simp <;> with_reducible rfl
      simp only [Act.put, List.setIfInBounds_toArray, List.set_cons_zero, List.set_cons_succ]
      refine takeU 6 (v := ?_) rfl (by kernel_rfl) (by kernel_rfl) (fun _ _ _ h => h) rfl (fun u hu => ?_) HD.out ?_
      rotate_left
      · skip; go_simp <;> with_reducible rfl
      simp only [Act.put, List.setIfInBounds_toArray, List.set_cons_zero, List.set_cons_succ]
      refine oneU 3 (by kernel_rfl) ?_
      refine callU 3 rfl (by kernel_rfl) rfl 18 _ _ rfl #[.string t0] (by simp [Act.eval]) (enters_of Tryd.func18 (by kernel_rfl) rfl) (fun v u => v = .bool _ ∧ Below w.heap.size w u) (H0.out _ HD.out) ?_
      rintro v u1 ⟨rfl, hu1⟩
      refine ⟨hu1, ?_⟩
      have HU1 := Lib.hid hu1
      clear hu1
      simp only [Act.put, List.setIfInBounds_toArray, List.set_cons_zero, List.set_cons_succ]
      refine oneU 7 (by kernel_rfl) ?_
      refine callU 7 rfl (by kernel_rfl) rfl 18 _ _ rfl #[.string t1] (by simp [Act.eval]) (enters_of Tryd.func18 (by kernel_rfl) rfl) (fun v u => v = .bool _ ∧ Below w.heap.size w u) (H1.out _ HU1.out) ?_
      rintro v u2 ⟨rfl, hu2⟩
      refine ⟨hu2, ?_⟩
      have HU2 := Lib.hid hu2
      clear hu2
      simp only [Act.put, List.setIfInBounds_toArray, List.set_cons_zero, List.set_cons_succ]
      refine takeU 8 (v := ?_) rfl (by kernel_rfl) (by kernel_rfl) (fun _ _ _ h => h) rfl (fun u hu => ?_) HU2.out ?_
      rotate_left
      · go_simp <;> with_reducible rfl
      simp only [Act.put, List.setIfInBounds_toArray, List.set_cons_zero, List.set_cons_succ]
      refine oneU 9 (by kernel_rfl) ?_
      refine endU (v := ?_) 9 rfl (by kernel_rfl) (by kernel_rfl) rfl ?_ ?_
      rotate_left
      · go_simp <;> with_reducible rfl
      simp only [Act.put, List.setIfInBounds_toArray, List.set_cons_zero, List.set_cons_succ]
      go_wp2_with fail
      go_ret
      exact ⟨rfl, HU2.out⟩
    · have hlt : c < s.size := by omega
      have hcc : ((c : Int) == (s.size : Int)) = false := by rw [beq_eq_false_iff_ne]; omega
      obtain ⟨x, hx⟩ : ∃ x, s[c].toNat = x := ⟨_, rfl⟩
      have HX : Hid ((bs s).getD c 0 = x) := by unfold Hid; rw [← hx, get_bs s c hlt]
      have HCE := Lib.hid hce
      clear hce
      by_cases h1 : x < 128
      · have hb : b = true := HBEG.out.2 (.inr (.inl (by rw [HX.out]; exact h1)))
        subst hb
        go_enter Tryd.func7, Tryd.ntmps7
        go_wp2_with fail
        refine (fixedW w HG.out).mono ?_
        rintro e w1 ⟨rfl, hb⟩
        have HB1 := Lib.hid hb
        clear hb
        go_wp2_with fail
        refine (HU.out w1 HB1.out).mono ?_
        rintro e w2 ⟨rfl, hb⟩
        have HB2 := Lib.hid hb
        clear hb
        go_wp2_with fail
        refine wp_region_U 9 (fun u => Below w.heap.size w u) (by kernel_rfl) ?_
        change wpAnyU _ _ _ _ _ _ 10 (Array.replicate 10 false) _ _
        have HD := Lib.hid HB2.out.drew
        refine takeU 0 (v := ?_) rfl (by kernel_rfl) (by kernel_rfl) (fun _ _ _ h => h) rfl (fun u hu => ?_) HD.out ?_
        rotate_left
        · skip; go_simp <;> with_reducible rfl
        simp only [Act.put, List.setIfInBounds_toArray, List.set_cons_zero, List.set_cons_succ]
        refine takeU 1 (v := ?_) rfl (by kernel_rfl) (by kernel_rfl) (fun _ _ _ h => h) rfl (fun u hu => ?_) HD.out ?_
        rotate_left
        · skip; go_simp <;> with_reducible rfl
        simp only [Act.put, List.setIfInBounds_toArray, List.set_cons_zero, List.set_cons_succ]
        refine takeU 2 (v := ?_) rfl (by kernel_rfl) (by kernel_rfl) (fun _ _ _ h => h) rfl (fun u hu => ?_) HD.out ?_
        rotate_left
        · skip; go_simp <;> with_reducible rfl
        simp only [Act.put, List.setIfInBounds_toArray, List.set_cons_zero, List.set_cons_succ]
        refine takeU 4 (v := ?_) rfl (by kernel_rfl) (by kernel_rfl) (fun _ _ _ h => h) rfl (fun u hu => ?_) HD.out ?_
        rotate_left
        · skip; go_simp <;> with_reducible rfl
        simp only [Act.put, List.setIfInBounds_toArray, List.set_cons_zero, List.set_cons_succ]
        refine takeU 5 (v := ?_) rfl (by kernel_rfl) (by kernel_rfl) (fun _ _ _ h => h) rfl (fun u hu => ?_) HD.out ?_
        rotate_left
        · skip; go_simp <;> with_reducible rfl
        simp only [Act.put, List.setIfInBounds_toArray, List.set_cons_zero, List.set_cons_succ]
        refine takeU 6 (v := ?_) rfl (by kernel_rfl) (by kernel_rfl) (fun _ _ _ h => h) rfl (fun u hu => ?_) HD.out ?_
        rotate_left
        · skip; go_simp <;> with_reducible rfl
        simp only [Act.put, List.setIfInBounds_toArray, List.set_cons_zero, List.set_cons_succ]
        refine oneU 3 (by kernel_rfl) ?_
        refine callU 3 rfl (by kernel_rfl) rfl 18 _ _ rfl #[.string t0] (by simp [Act.eval]) (enters_of Tryd.func18 (by kernel_rfl) rfl) (fun v u => v = .bool _ ∧ Below w.heap.size w u) (H0.out _ HD.out) ?_
        rintro v u1 ⟨rfl, hu1⟩
        refine ⟨hu1, ?_⟩
        have HU1 := Lib.hid hu1
        clear hu1
        simp only [Act.put, List.setIfInBounds_toArray, List.set_cons_zero, List.set_cons_succ]
        refine oneU 7 (by kernel_rfl) ?_
        refine callU 7 rfl (by kernel_rfl) rfl 18 _ _ rfl #[.string t1] (by simp [Act.eval]) (enters_of Tryd.func18 (by kernel_rfl) rfl) (fun v u => v = .bool _ ∧ Below w.heap.size w u) (H1.out _ HU1.out) ?_
        rintro v u2 ⟨rfl, hu2⟩
        refine ⟨hu2, ?_⟩
        have HU2 := Lib.hid hu2
        clear hu2
        simp only [Act.put, List.setIfInBounds_toArray, List.set_cons_zero, List.set_cons_succ]
        refine takeU 8 (v := ?_) rfl (by kernel_rfl) (by kernel_rfl) (fun _ _ _ h => h) rfl (fun u hu => ?_) HU2.out ?_
        rotate_left
        · go_simp <;> with_reducible rfl
        simp only [Act.put, List.setIfInBounds_toArray, List.set_cons_zero, List.set_cons_succ]
        refine oneU 9 (by kernel_rfl) ?_
        refine endU (v := ?_) 9 rfl (by kernel_rfl) (by kernel_rfl) rfl ?_ ?_
        rotate_left
        · go_simp <;> with_reducible rfl
        simp only [Act.put, List.setIfInBounds_toArray, List.set_cons_zero, List.set_cons_succ]
        go_wp2_with fail
        go_ret
        exact ⟨rfl, HU2.out⟩
      · have d1 : decide ((x : Int) < 128) = false := by rw [decide_eq_false_iff_not]; omega
        by_cases h2 : x < 192
        · have d2 : decide ((192 : Int) ≤ (x : Int)) = false := by rw [decide_eq_false_iff_not]; omega
          have hb : b = false := by
            cases b
            · rfl
            · rcases HBEG.out.1 rfl with h | h | h
              · rw [length_bs] at h; exact absurd h HCE.out
              · rw [HX.out] at h; omega
              · rw [HX.out] at h; omega
          subst hb
          go_enter Tryd.func7, Tryd.ntmps7
          go_wp2_with fail
          refine (fixedW w HG.out).mono ?_
          rintro e w1 ⟨rfl, hb⟩
          have HB1 := Lib.hid hb
          clear hb
          go_wp2_with fail
          refine (HU.out w1 HB1.out).mono ?_
          rintro e w2 ⟨rfl, hb⟩
          have HB2 := Lib.hid hb
          clear hb
          go_wp2_with fail
          refine wp_region_U 9 (fun u => Below w.heap.size w u) (by kernel_rfl) ?_
          change wpAnyU _ _ _ _ _ _ 10 (Array.replicate 10 false) _ _
          have HD := Lib.hid HB2.out.drew
          refine takeU 0 (v := ?_) rfl (by kernel_rfl) (by kernel_rfl) (fun _ _ _ h => h) rfl (fun u hu => ?_) HD.out ?_
          rotate_left
          · skip; go_simp <;> with_reducible rfl
          simp only [Act.put, List.setIfInBounds_toArray, List.set_cons_zero, List.set_cons_succ]
          refine takeU 1 (v := ?_) rfl (by kernel_rfl) (by kernel_rfl) (fun _ _ _ h => h) rfl (fun u hu => ?_) HD.out ?_
          rotate_left
          · skip; go_simp <;> with_reducible rfl
          simp only [Act.put, List.setIfInBounds_toArray, List.set_cons_zero, List.set_cons_succ]
          refine takeU 2 (v := ?_) rfl (by kernel_rfl) (by kernel_rfl) (fun _ _ _ h => h) rfl (fun u hu => ?_) HD.out ?_
          rotate_left
          · skip; go_simp <;> with_reducible rfl
          simp only [Act.put, List.setIfInBounds_toArray, List.set_cons_zero, List.set_cons_succ]
          refine takeU 4 (v := ?_) rfl (by kernel_rfl) (by kernel_rfl) (fun _ _ _ h => h) rfl (fun u hu => ?_) HD.out ?_
          rotate_left
          · skip; go_simp <;> with_reducible rfl
          simp only [Act.put, List.setIfInBounds_toArray, List.set_cons_zero, List.set_cons_succ]
          refine takeU 5 (v := ?_) rfl (by kernel_rfl) (by kernel_rfl) (fun _ _ _ h => h) rfl (fun u hu => ?_) HD.out ?_
          rotate_left
          · skip; go_simp <;> with_reducible rfl
          simp only [Act.put, List.setIfInBounds_toArray, List.set_cons_zero, List.set_cons_succ]
          refine takeU 6 (v := ?_) rfl (by kernel_rfl) (by kernel_rfl) (fun _ _ _ h => h) rfl (fun u hu => ?_) HD.out ?_
          rotate_left
          · skip; go_simp <;> with_reducible rfl
          simp only [Act.put, List.setIfInBounds_toArray, List.set_cons_zero, List.set_cons_succ]
          refine oneU 3 (by kernel_rfl) ?_
          refine callU 3 rfl (by kernel_rfl) rfl 18 _ _ rfl #[.string t0] (by simp [Act.eval]) (enters_of Tryd.func18 (by kernel_rfl) rfl) (fun v u => v = .bool _ ∧ Below w.heap.size w u) (H0.out _ HD.out) ?_
          rintro v u1 ⟨rfl, hu1⟩
          refine ⟨hu1, ?_⟩
          have HU1 := Lib.hid hu1
          clear hu1
          simp only [Act.put, List.setIfInBounds_toArray, List.set_cons_zero, List.set_cons_succ]
          refine oneU 7 (by kernel_rfl) ?_
          refine callU 7 rfl (by kernel_rfl) rfl 18 _ _ rfl #[.string t1] (by simp [Act.eval]) (enters_of Tryd.func18 (by kernel_rfl) rfl) (fun v u => v = .bool _ ∧ Below w.heap.size w u) (H1.out _ HU1.out) ?_
          rintro v u2 ⟨rfl, hu2⟩
          refine ⟨hu2, ?_⟩
          have HU2 := Lib.hid hu2
          clear hu2
          simp only [Act.put, List.setIfInBounds_toArray, List.set_cons_zero, List.set_cons_succ]
          refine takeU 8 (v := ?_) rfl (by kernel_rfl) (by kernel_rfl) (fun _ _ _ h => h) rfl (fun u hu => ?_) HU2.out ?_
          rotate_left
          · go_simp <;> with_reducible rfl
          simp only [Act.put, List.setIfInBounds_toArray, List.set_cons_zero, List.set_cons_succ]
          refine oneU 9 (by kernel_rfl) ?_
          refine endU (v := ?_) 9 rfl (by kernel_rfl) (by kernel_rfl) rfl ?_ ?_
          rotate_left
          · go_simp <;> with_reducible rfl
          simp only [Act.put, List.setIfInBounds_toArray, List.set_cons_zero, List.set_cons_succ]
          go_wp2_with fail
          go_ret
          exact ⟨rfl, HU2.out⟩
        · have d2 : decide ((192 : Int) ≤ (x : Int)) = true := by rw [decide_eq_true_iff]; omega
          have hb : b = true := HBEG.out.2 (.inr (.inr (by rw [HX.out]; omega)))
          subst hb
          go_enter Tryd.func7, Tryd.ntmps7
          go_wp2_with fail
          refine (fixedW w HG.out).mono ?_
          rintro e w1 ⟨rfl, hb⟩
          have HB1 := Lib.hid hb
          clear hb
          go_wp2_with fail
          refine (HU.out w1 HB1.out).mono ?_
          rintro e w2 ⟨rfl, hb⟩
          have HB2 := Lib.hid hb
          clear hb
          go_wp2_with fail
          refine wp_region_U 9 (fun u => Below w.heap.size w u) (by kernel_rfl) ?_
          change wpAnyU _ _ _ _ _ _ 10 (Array.replicate 10 false) _ _
          have HD := Lib.hid HB2.out.drew
          refine takeU 0 (v := ?_) rfl (by kernel_rfl) (by kernel_rfl) (fun _ _ _ h => h) rfl (fun u hu => ?_) HD.out ?_
          rotate_left
          · skip; go_simp <;> with_reducible rfl
          simp only [Act.put, List.setIfInBounds_toArray, List.set_cons_zero, List.set_cons_succ]
          refine takeU 1 (v := ?_) rfl (by kernel_rfl) (by kernel_rfl) (fun _ _ _ h => h) rfl (fun u hu => ?_) HD.out ?_
          rotate_left
          · skip; go_simp <;> with_reducible rfl
          simp only [Act.put, List.setIfInBounds_toArray, List.set_cons_zero, List.set_cons_succ]
          refine takeU 2 (v := ?_) rfl (by kernel_rfl) (by kernel_rfl) (fun _ _ _ h => h) rfl (fun u hu => ?_) HD.out ?_
          rotate_left
          · skip; go_simp <;> with_reducible rfl
          simp only [Act.put, List.setIfInBounds_toArray, List.set_cons_zero, List.set_cons_succ]
          refine takeU 4 (v := ?_) rfl (by kernel_rfl) (by kernel_rfl) (fun _ _ _ h => h) rfl (fun u hu => ?_) HD.out ?_
          rotate_left
          · skip; go_simp <;> with_reducible rfl
          simp only [Act.put, List.setIfInBounds_toArray, List.set_cons_zero, List.set_cons_succ]
          refine takeU 5 (v := ?_) rfl (by kernel_rfl) (by kernel_rfl) (fun _ _ _ h => h) rfl (fun u hu => ?_) HD.out ?_
          rotate_left
          · skip; go_simp <;> with_reducible rfl
          simp only [Act.put, List.setIfInBounds_toArray, List.set_cons_zero, List.set_cons_succ]
          refine takeU 6 (v := ?_) rfl (by kernel_rfl) (by kernel_rfl) (fun _ _ _ h => h) rfl (fun u hu => ?_) HD.out ?_
          rotate_left
          · skip; go_simp <;> with_reducible rfl
          simp only [Act.put, List.setIfInBounds_toArray, List.set_cons_zero, List.set_cons_succ]
          refine oneU 3 (by kernel_rfl) ?_
          refine callU 3 rfl (by kernel_rfl) rfl 18 _ _ rfl #[.string t0] (by simp [Act.eval]) (enters_of Tryd.func18 (by kernel_rfl) rfl) (fun v u => v = .bool _ ∧ Below w.heap.size w u) (H0.out _ HD.out) ?_
          rintro v u1 ⟨rfl, hu1⟩
          refine ⟨hu1, ?_⟩
          have HU1 := Lib.hid hu1
          clear hu1
          simp only [Act.put, List.setIfInBounds_toArray, List.set_cons_zero, List.set_cons_succ]
          refine oneU 7 (by kernel_rfl) ?_
          refine callU 7 rfl (by kernel_rfl) rfl 18 _ _ rfl #[.string t1] (by simp [Act.eval]) (enters_of Tryd.func18 (by kernel_rfl) rfl) (fun v u => v = .bool _ ∧ Below w.heap.size w u) (H1.out _ HU1.out) ?_
          rintro v u2 ⟨rfl, hu2⟩
          refine ⟨hu2, ?_⟩
          have HU2 := Lib.hid hu2
          clear hu2
          simp only [Act.put, List.setIfInBounds_toArray, List.set_cons_zero, List.set_cons_succ]
          refine takeU 8 (v := ?_) rfl (by kernel_rfl) (by kernel_rfl) (fun _ _ _ h => h) rfl (fun u hu => ?_) HU2.out ?_
          rotate_left
          · go_simp <;> with_reducible rfl
          simp only [Act.put, List.setIfInBounds_toArray, List.set_cons_zero, List.set_cons_succ]
          refine oneU 9 (by kernel_rfl) ?_
          refine endU (v := ?_) 9 rfl (by kernel_rfl) (by kernel_rfl) rfl ?_ ?_
          rotate_left
          · go_simp <;> with_reducible rfl
          simp only [Act.put, List.setIfInBounds_toArray, List.set_cons_zero, List.set_cons_succ]
          go_wp2_with fail
          go_ret
          exact ⟨rfl, HU2.out⟩
end Go.Proofs.YthdoeaiehajofaaDoor
