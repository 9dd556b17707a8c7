/- The document's disk: goes, Waiting, Revive. -/
import Derived.Test.YtilpbjcbffbjeaaGreatDoorDRef2
namespace Go.Proofs.YtilpbjcbffbjeaaGreatDoor
set_option linter.unusedVariables false
set_option maxRecDepth 100000
open Go.RowKit
section
variable {S : Nat → Prop} {w w' : World} {b g cap B : Nat} {w0 : World} {D : Dk} {v : Value} {l : List Fl}
theorem rblk_muts {w : World} {b : Nat} {cs : Array Value} (h : w.heap[b]? = some (.cells cs 76 (0, 0))) : Muts (fun k => k = b) w := by
  intro k _ hS cur T fr hh
  subst hS
  rw [h] at hh
  injection hh with hh
  injection hh with _ hT _
  subst hT
  unfold Fix
  decide
theorem IsR.setArmed (h : IsR B w0 w b g cap D) (n : Nat) : IsR B w0 (w.setCell ⟨b, 1, none⟩ (.int .i64 (n : Nat))) b g cap ⟨D.l, n, D.ch, D.dead⟩ := by
  have hlt := h.lt
  obtain ⟨v, cv, h1, h2, h3⟩ := h.blk
  have hc : Chg (fun k => k = b) w (w.setCell ⟨b, 1, none⟩ (.int .i64 (n : Nat))) := Chg.setCell (fun k => k = b) w rfl _
  exact ⟨⟨v, cv, setCell_blk w b 1 _ h1, h2.keep hc (rblk_muts h1), h3⟩, h.bB, h.below.trans (hc.below (by have := h.bB; omega) (fun k hk e => by have := h.bB; omega)), h.le⟩
theorem IsR.setDead (h : IsR B w0 w b g cap D) (d : Bool) : IsR B w0 (w.setCell ⟨b, 3, none⟩ (.bool d)) b g cap ⟨D.l, D.armed, D.ch, d⟩ := by
  have hlt := h.lt
  obtain ⟨v, cv, h1, h2, h3⟩ := h.blk
  have hc : Chg (fun k => k = b) w (w.setCell ⟨b, 3, none⟩ (.bool d)) := Chg.setCell (fun k => k = b) w rfl _
  exact ⟨⟨v, cv, setCell_blk w b 3 _ h1, h2.keep hc (rblk_muts h1), h3⟩, h.bB, h.below.trans (hc.below (by have := h.bB; omega) (fun k hk e => by have := h.bB; omega)), h.le⟩
theorem IsR.setCh (h : IsR B w0 w b g cap D) {cv : Value} {ch : List (List Int)} (hv : Rss w0 cv ch) : IsR B w0 (w.setCell ⟨b, 2, none⟩ cv) b g cap ⟨D.l, D.armed, ch, D.dead⟩ := by
  have hlt := h.lt
  obtain ⟨v, cv', h1, h2, h3⟩ := h.blk
  have hc : Chg (fun k => k = b) w (w.setCell ⟨b, 2, none⟩ cv) := Chg.setCell (fun k => k = b) w rfl _
  exact ⟨⟨v, cv, setCell_blk w b 2 _ h1, h2.keep hc (rblk_muts h1), hv⟩, h.bB, h.below.trans (hc.below (by have := h.bB; omega) (fun k hk e => by have := h.bB; omega)), h.le⟩
end
set_option maxHeartbeats 400000 in
theorem rgoesW {B : Nat} {w0 w : World} {b g cap : Nat} {D : Dk} (h : IsR B w0 w b g cap D) (hn : D.armed ≤ 9223372036854775807) :
    Calls Tryz.prog 128 #[.pointer (some ⟨b, 0, none⟩)] w fun e w' => e = .returned (.bool (decide (D.armed = 1))) ∧ IsR B w0 w' b g cap D.tick ∧ Chg (fun k => k = b) w w' := by
  have c1 := h.cells.2.1
  have f1 := h.free 1
  obtain ⟨n, hA⟩ : ∃ n, D.armed = n := ⟨_, rfl⟩
  rw [hA] at c1 hn
  cases n with
  | zero =>
    have e : D.tick = D := by unfold Dk.tick; rw [hA]; cases D; simp_all
    have H := Lib.hid h
    have hd : decide (D.armed = 1) = false := by rw [hA]; decide
    rw [hd, e]
    clear h hA e hd
    go_enter Tryz.func128, Tryz.ntmps128
    go_wp2_with fail
    go_ret
    exact ⟨rfl, H.out, Chg.refl _ _⟩
  | succ n =>
    have hid := h.setArmed n
    have e : D.tick = ⟨D.l, n, D.ch, D.dead⟩ := by unfold Dk.tick; rw [hA]; rfl
    rw [← e] at hid
    have H := Lib.hid hid
    have hd : decide (D.armed = 1) = decide (n = 0) := by rw [hA]; by_cases h : n = 0 <;> simp [h]
    rw [hd]
    have hp : (0 : Int) < ((n + 1 : Nat) : Int) := by omega
    clear h hA e hid hd
    by_cases h0 : n = 0
    · subst h0
      go_enter Tryz.func128, Tryz.ntmps128
      go_wp2_with fail
      go_ret
      exact ⟨rfl, H.out, Chg.setCell (fun k => k = b) w rfl _⟩
    · have e0 : ((n : Int) == 0) = false := by rw [beq_eq_false_iff_ne]; omega
      have e1 : decide (n = 0) = false := decide_eq_false h0
      rw [e1]
      go_enter Tryz.func128, Tryz.ntmps128
      go_wp2_with fail
      go_ret
      exact ⟨rfl, H.out, Chg.setCell (fun k => k = b) w rfl _⟩
set_option maxHeartbeats 400000 in
theorem rreviveW {B : Nat} {w0 w : World} {b g cap : Nat} {D : Dk} (h : IsR B w0 w b g cap D) :
    Calls Tryz.prog 41 #[.pointer (some ⟨b, 0, none⟩)] w fun e w' => e = .returned (.tuple #[]) ∧ IsR B w0 w' b g cap ⟨D.l, 0, D.ch, false⟩ ∧ Chg (fun k => k = b) w w' := by
  have c1 := h.cells.2.1
  have c3 := h.cells.2.2.2
  have f1 := h.free 1
  have f3 := h.free 3
  have H := Lib.hid ((h.setDead false).setArmed 0)
  clear h
  go_enter Tryz.func41, Tryz.ntmps41
  go_wp2_with fail
  go_end0
  exact ⟨rfl, H.out, (Chg.setCell (fun k => k = b) w (j := 3) rfl _).trans (Chg.setCell (fun k => k = b) _ (j := 1) rfl _)⟩
end Go.Proofs.YtilpbjcbffbjeaaGreatDoor
