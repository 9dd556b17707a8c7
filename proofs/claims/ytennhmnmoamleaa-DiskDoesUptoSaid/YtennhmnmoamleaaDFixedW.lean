/- The walk of fixed. -/
import Derived.Test.YtennhmnmoamleaaDFixed
namespace Go.Proofs.Ytennhmnmoamleaa
open Go.RowKit
theorem strs_two (w : World) (b : Nat) (x y : ByteArray) (h0 : w.cell? ⟨b, 0, none⟩ = some (.string x)) (h1 : w.cell? ⟨b, 1, none⟩ = some (.string y)) : Strs w (.slice (some ⟨b, 0, none⟩) 2 2) [x, y] := by
  refine Strs.mk (ss := [x, y]) fun i hi => ?_
  match i, (show i < 2 from hi) with
  | 0, _ => exact ⟨b, 0, rfl, h0⟩
  | 1, _ => exact ⟨b, 0, rfl, h1⟩
theorem rss_one (w : World) (a b : Nat) (x y : Int) (h : w.cell? ⟨b, 0, none⟩ = some (.slice (some ⟨a, 0, none⟩) 2 2)) (h0 : w.cell? ⟨a, 0, none⟩ = some (.int .i64 x)) (h1 : w.cell? ⟨a, 1, none⟩ = some (.int .i64 y)) :
    Rss w (.slice (some ⟨b, 0, none⟩) 1 1) [[x, y]] := by
  refine ⟨_, 1, rfl, fun i hi => ?_⟩
  match i, (show i < 1 from hi) with
  | 0, _ =>
    refine ⟨b, 0, _, rfl, h, Ints.mk (zs := [x, y]) fun j hj => ?_⟩
    match j, (show j < 2 from hj) with
    | 0, _ => exact ⟨a, 0, rfl, h0⟩
    | 1, _ => exact ⟨a, 0, rfl, h1⟩
theorem chl_one (x y : Int) : ∀ i, (([[x, y]] : List (List Int)).getD i []).length ≤ 1048576 := fun i => by
  match i with
  | 0 => exact (by decide : 2 ≤ 1048576)
  | n + 1 => exact Nat.zero_le _
theorem WS.cell0 {w : World} {p : Option Addr} {c : Nat} {x y : ByteArray} (h : WS w (.slice p 2 c) [x, y]) : ∃ g off, p = some ⟨g, off, none⟩ ∧ w.cell? ⟨g, off, none⟩ = some (.string x) := by
  obtain ⟨q, d, e, hc⟩ := h.strs.form
  injection e with e1 e2 e3
  subst e1
  obtain ⟨g, off, hp, h0⟩ := hc 0 (Nat.zero_lt_two)
  exact ⟨g, off, hp, h0⟩
set_option maxRecDepth 100000 in
set_option maxHeartbeats 3200000 in
theorem fixedW (w : World) : Calls Try.prog 6 #[] w fun e w' => e = .returned (.bool true) ∧ Below w.heap.size w w' := by
  go_enter Try.func6, Try.ntmps6
  go_wp2_with fail
  refine (newW _ [fe, fe] (strs_two _ w.heap.size fe fe (by simp [fe]) (by simp [fe])) (by decide) (fun i hi => by match i, (show i < 2 from hi) with | 0, _ => decide | 1, _ => decide)).mono ?_
  rintro e w1 ⟨hb1, hh⟩
  rcases hh with ⟨hne, _⟩ | ⟨_, b, g, cap, rfl, hid, hbb, hgg⟩
  · exact absurd fx0 hne
  have hat : At w.heap.size w b g cap F0 w1 := ⟨hid, ((Below.refl _ _).alloc (Nat.le_refl _) _).trans (hb1.mono (by simp)), by simp at hbb; omega, by simp at hgg; omega, Nat.le_refl _⟩
  have HA := Lib.hid hat
  clear hat hid hbb hgg hb1
  go_wp2_with fail
  refine (HA.out.writeF okF0 rfl (by decide) (by decide) 0 fab (by decide) 0 fx1).mono ?_
  rintro e w2 ⟨rfl, hat⟩
  replace HA := Lib.hid hat
  clear hat
  go_wp2_with fail
  refine (HA.out.writeF okF1 rfl (by decide) (by decide) 0 fcd (by decide) 0 fx2).mono ?_
  rintro e w3 ⟨rfl, hat⟩
  replace HA := Lib.hid hat
  clear hat
  go_wp2_with fail
  refine (HA.out.writeF okF2 rfl (by decide) (by decide) 2 fx (by decide) 160 fx3).mono ?_
  rintro e w4 ⟨rfl, hat⟩
  replace HA := Lib.hid hat
  clear hat
  go_wp2_with fail
  have HS := Lib.hid (HA.out.sizeF okF2 0 (by decide))
  rw [fx4] at HS
  refine HS.out.mono ?_
  rintro e w5 ⟨rfl, hat⟩
  replace HA := Lib.hid hat
  clear hat HS
  go_wp2_with fail
  have HS := Lib.hid (waitingYes HA.out.disk 0 (by decide))
  rw [fx5] at HS
  refine HS.out.mono ?_
  rintro e w5 ⟨rfl, rfl⟩
  clear HS
  go_wp2_with fail
  refine (HA.out.cutF okF2 0 1 162 fx6).mono ?_
  rintro e w6 ⟨rfl, hat⟩
  replace HA := Lib.hid hat
  clear hat
  go_wp2_with fail
  refine (HA.out.afterF okF2 _ [] (Rss.nil _) (fun i => Nat.zero_le _)).mono ?_
  rintro e w7 ⟨v1, rfl, hw1, hat, _⟩
  rw [fx7] at hw1
  replace HA := Lib.hid hat
  obtain ⟨p1, c1, rfl, _⟩ := hw1.form
  have HV1 := Lib.hid hw1
  clear hat hw1
  go_wp2_with fail
  obtain ⟨W, hW⟩ : ∃ W, W = (w7.alloc (.cells #[.int .i64 0, .int .i64 9] 3)).alloc (.cells #[.slice (some ⟨w7.heap.size, 0, none⟩) 2 2] 57) := ⟨_, rfl⟩
  have hb : Below w7.heap.size w7 W := by rw [hW]; exact ((Below.refl _ _).alloc (Nat.le_refl _) _).alloc (by simp) _
  have hrs : Rss W (.slice (some ⟨w7.heap.size + 1, 0, none⟩) 1 1) [[0, 9]] := rss_one W w7.heap.size (w7.heap.size + 1) 0 9 (by rw [hW]; simp) (by rw [hW]; simp) (by rw [hW]; simp)
  rw [← hW]
  refine ((HA.out.grow hb).afterF okF2 _ [[0, 9]] hrs (chl_one 0 9)).mono ?_
  rintro e w8 ⟨v2, rfl, hw2, hat, hb2⟩
  rw [fx8] at hw2
  obtain ⟨p2, c2, rfl, _⟩ := hw2.form
  replace HV1 := Lib.hid ((HV1.out.below hb).below hb2)
  replace HA := Lib.hid hat
  have HV2 := Lib.hid hw2
  clear hat hw2 hb hb2 hrs hW
  go_wp2_with fail
  obtain ⟨W2, hW⟩ : ∃ W2, W2 = (w8.alloc (.cells #[.int .i64 1, .int .i64 1] 3)).alloc (.cells #[.slice (some ⟨w8.heap.size, 0, none⟩) 2 2] 57) := ⟨_, rfl⟩
  have hb : Below w8.heap.size w8 W2 := by rw [hW]; exact ((Below.refl _ _).alloc (Nat.le_refl _) _).alloc (by simp) _
  have hrs : Rss W2 (.slice (some ⟨w8.heap.size + 1, 0, none⟩) 1 1) [[1, 1]] := rss_one W2 w8.heap.size (w8.heap.size + 1) 1 1 (by rw [hW]; simp) (by rw [hW]; simp) (by rw [hW]; simp)
  rw [← hW]
  refine ((HA.out.grow hb).afterF okF2 _ [[1, 1]] hrs (chl_one 1 1)).mono ?_
  rintro e w9 ⟨v3, rfl, hw3, hat, hb2⟩
  rw [fx9] at hw3
  obtain ⟨p3, c3, rfl, _⟩ := hw3.form
  obtain ⟨g1, o1, rfl, x1⟩ := ((HV1.out.below hb).below hb2).cell0
  obtain ⟨g2, o2, rfl, x2⟩ := ((HV2.out.below hb).below hb2).cell0
  obtain ⟨g3, o3, rfl, x3⟩ := hw3.cell0
  replace HA := Lib.hid hat
  clear hat hw3 hb hb2 hrs hW HV1 HV2
  replace x1 : w9.cell? ⟨g1, o1, none⟩ = some (.string ⟨#[]⟩) := x1
  go_wp2_with fail
  refine (HA.out.syncF okF2 0 0 fx10).mono ?_
  rintro e w10 ⟨rfl, hat⟩
  replace HA := Lib.hid hat
  clear hat x1 x2 x3
  go_wp2_with fail
  refine (HA.out.crashF okF3 _ [] (Rss.nil _) (fun i => Nat.zero_le _) 0 fx11).mono ?_
  rintro e w11 ⟨rfl, hat⟩
  replace HA := Lib.hid hat
  clear hat
  go_wp2_with fail
  refine (HA.out.readF okF4 0 fe 2 fx12).mono ?_
  rintro e w12 ⟨rfl, hat⟩
  replace HA := Lib.hid hat
  clear hat
  go_wp2_with fail
  refine HA.out.reviveF.mono ?_
  rintro e w13 ⟨rfl, hat⟩
  have hat2 : At w.heap.size w b g cap F3 w13 := hat
  replace HA := Lib.hid hat2
  clear hat hat2
  go_wp2_with fail
  refine (HA.out.cutF okF3 0 3 0 fx13).mono ?_
  rintro e w14 ⟨rfl, hat⟩
  replace HA := Lib.hid hat
  clear hat
  go_wp2_with fail
  refine (armW HA.out.disk rfl 1 (by decide) _ [] (Rss.nil _) (by decide) (fun i => Nat.zero_le _)).mono ?_
  rintro e w15 ⟨rfl, hid, hc⟩
  have hat2 : At w.heap.size w b g cap F7 w15 := HA.out.chg hid (hc.mono fun k _ hk => .inl hk)
  replace HA := Lib.hid hat2
  clear hid hc hat2
  go_wp2_with fail
  refine (HA.out.writeF okF7 rfl (by decide) (by decide) 1 fx (by decide) 2 fx14).mono ?_
  rintro e w16 ⟨rfl, hat⟩
  replace HA := Lib.hid hat
  clear hat
  go_wp2_with fail
  refine (deadW HA.out.disk).mono ?_
  rintro e w17 ⟨rfl, rfl⟩
  rw [show F8.dead = true from rfl]
  go_wp2_with fail
  refine HA.out.reviveF.mono ?_
  rintro e w18 ⟨rfl, hat⟩
  have hat2 : At w.heap.size w b g cap F6 w18 := hat
  replace HA := Lib.hid hat2
  clear hat hat2
  go_wp2_with fail
  refine (HA.out.readF okF6 0 fabc 0 fx15).mono ?_
  rintro e w19 ⟨rfl, hat⟩
  replace HA := Lib.hid hat
  clear hat
  rw [show fabc = ⟨#[97, 98, 99]⟩ from rfl]
  go_wp2_with fail
  have HS := Lib.hid (HA.out.sizeF okF6 1 (by decide))
  rw [fx16] at HS
  refine HS.out.mono ?_
  rintro e w20 ⟨rfl, hat⟩
  replace HA := Lib.hid hat
  clear hat HS
  go_wp2_with fail
  refine (countW HA.out.disk).mono ?_
  rintro e w21 ⟨rfl, rfl⟩
  rw [show F6.l.length = 2 from rfl]
  go_wp2_with fail
  go_ret
  exact ⟨rfl, HA.out.below⟩
end Go.Proofs.Ytennhmnmoamleaa
