/- The document's disk: goes, Waiting, Revive. -/
import Derived.Test.YtennhmnmoamleaaDRef2
namespace Go.Proofs.Ytennhmnmoamleaa
set_option linter.unusedVariables false
open Go.RowKit
section
variable {S : Nat → Prop} {w w' : World} {b g cap B : Nat} {w0 : World} {D : Dk} {v : Value} {l : List Fl}
theorem rblk_muts {w : World} {b : Nat} {cs : Array Value} (h : w.heap[b]? = some (.cells cs 50 (0, 0))) : Muts (fun k => k = b) w := by
  intro k _ hS cur T fr hh
  subst hS
  rw [h] at hh
  injection hh with hh
  injection hh with _ hT _
  subst hT
  unfold Fix
  decide
theorem IsR.setArmed (h : IsR B w0 w b g cap D) (n : Nat) : IsR B w0 (w.setCell ⟨b, 1, none⟩ (.int .i64 (n : Nat))) b g cap ⟨D.l, n, D.ch, D.dead⟩ := by
  have hlt := h.lt
  obtain ⟨v, cv, h1, h2, h3⟩ := h.blk
  have hc : Chg (fun k => k = b) w (w.setCell ⟨b, 1, none⟩ (.int .i64 (n : Nat))) := Chg.setCell (fun k => k = b) w rfl _
  exact ⟨⟨v, cv, setCell_blk w b 1 _ h1, h2.keep hc (rblk_muts h1), h3⟩, h.bB, h.below.trans (hc.below (by have := h.bB; omega) (fun k hk e => by have := h.bB; omega)), h.le⟩
theorem IsR.setDead (h : IsR B w0 w b g cap D) (d : Bool) : IsR B w0 (w.setCell ⟨b, 3, none⟩ (.bool d)) b g cap ⟨D.l, D.armed, D.ch, d⟩ := by
  have hlt := h.lt
  obtain ⟨v, cv, h1, h2, h3⟩ := h.blk
  have hc : Chg (fun k => k = b) w (w.setCell ⟨b, 3, none⟩ (.bool d)) := Chg.setCell (fun k => k = b) w rfl _
  exact ⟨⟨v, cv, setCell_blk w b 3 _ h1, h2.keep hc (rblk_muts h1), h3⟩, h.bB, h.below.trans (hc.below (by have := h.bB; omega) (fun k hk e => by have := h.bB; omega)), h.le⟩
theorem IsR.setCh (h : IsR B w0 w b g cap D) {cv : Value} {ch : List (List Int)} (hv : Rss w0 cv ch) : IsR B w0 (w.setCell ⟨b, 2, none⟩ cv) b g cap ⟨D.l, D.armed, ch, D.dead⟩ := by
  have hlt := h.lt
  obtain ⟨v, cv', h1, h2, h3⟩ := h.blk
  have hc : Chg (fun k => k = b) w (w.setCell ⟨b, 2, none⟩ cv) := Chg.setCell (fun k => k = b) w rfl _
  exact ⟨⟨v, cv, setCell_blk w b 2 _ h1, h2.keep hc (rblk_muts h1), hv⟩, h.bB, h.below.trans (hc.below (by have := h.bB; omega) (fun k hk e => by have := h.bB; omega)), h.le⟩
end
set_option maxHeartbeats 400000 in
theorem rgoesW {B : Nat} {w0 w : World} {b g cap : Nat} {D : Dk} (h : IsR B w0 w b g cap D) (hn : D.armed ≤ 9223372036854775807) :
    Calls Try.prog 48 #[.pointer (some ⟨b, 0, none⟩)] w fun e w' => e = .returned (.bool (decide (D.armed = 1))) ∧ IsR B w0 w' b g cap D.tick ∧ Chg (fun k => k = b) w w' := by
  have c1 := h.cells.2.1
  have f1 := h.free 1
  obtain ⟨n, hA⟩ : ∃ n, D.armed = n := ⟨_, rfl⟩
  rw [hA] at c1 hn
  cases n with
  | zero =>
    have e : D.tick = D := by unfold Dk.tick; rw [hA]; cases D; simp_all
    have H := Lib.hid h
    have hd : decide (D.armed = 1) = false := by rw [hA]; decide
    rw [hd, e]
    clear h hA e hd
    go_enter Try.func48, Try.ntmps48
    go_wp2_with fail
    go_ret
    exact ⟨rfl, H.out, Chg.refl _ _⟩
  | succ n =>
    have hid := h.setArmed n
    have e : D.tick = ⟨D.l, n, D.ch, D.dead⟩ := by unfold Dk.tick; rw [hA]; rfl
    rw [← e] at hid
    have H := Lib.hid hid
    have hd : decide (D.armed = 1) = decide (n = 0) := by rw [hA]; by_cases h : n = 0 <;> simp [h]
    rw [hd]
    have hp : (0 : Int) < ((n + 1 : Nat) : Int) := by omega
    clear h hA e hid hd
    by_cases h0 : n = 0
    · subst h0
      go_enter Try.func48, Try.ntmps48
      go_wp2_with fail
      go_ret
      exact ⟨rfl, H.out, Chg.setCell (fun k => k = b) w rfl _⟩
    · have e0 : ((n : Int) == 0) = false := by rw [beq_eq_false_iff_ne]; omega
      have e1 : decide (n = 0) = false := decide_eq_false h0
      rw [e1]
      go_enter Try.func48, Try.ntmps48
      go_wp2_with fail
      go_ret
      exact ⟨rfl, H.out, Chg.setCell (fun k => k = b) w rfl _⟩
set_option maxHeartbeats 400000 in
theorem rreviveW {B : Nat} {w0 w : World} {b g cap : Nat} {D : Dk} (h : IsR B w0 w b g cap D) :
    Calls Try.prog 32 #[.pointer (some ⟨b, 0, none⟩)] w fun e w' => e = .returned (.tuple #[]) ∧ IsR B w0 w' b g cap ⟨D.l, 0, D.ch, false⟩ ∧ Chg (fun k => k = b) w w' := by
  have c1 := h.cells.2.1
  have c3 := h.cells.2.2.2
  have f1 := h.free 1
  have f3 := h.free 3
  have H := Lib.hid ((h.setDead false).setArmed 0)
  clear h
  go_enter Try.func32, Try.ntmps32
  go_wp2_with fail
  go_end0
  exact ⟨rfl, H.out, (Chg.setCell (fun k => k = b) w (j := 3) rfl _).trans (Chg.setCell (fun k => k = b) _ (j := 1) rfl _)⟩
set_option maxHeartbeats 400000 in
theorem rwaitYes {B : Nat} {w0 w : World} {b g cap : Nat} {D : Dk} (h : IsR B w0 w b g cap D) (f : Nat) (hf : f < D.l.length) :
    Calls Try.prog 38 #[.pointer (some ⟨b, 0, none⟩), .int .i64 (f : Nat)] w fun e w' => e = .returned (.int .i64 ((D.l.getD f Fl.zero).ws.length : Nat)) ∧ w = w' := by
  have HI := Lib.hid (risW h (f : Nat))
  have e : D.out (f : Nat) = false := by unfold Dk.out; rw [decide_eq_false_iff_not]; omega
  rw [e] at HI
  obtain ⟨v, c0, hr⟩ := h.cells.1
  obtain ⟨u, c1, hws⟩ := hr.ws f hf
  obtain ⟨p, c, rfl, _⟩ := hws.form
  have hfm := hr.form
  subst hfm
  obtain ⟨n, hn⟩ : ∃ n, n = (D.l.getD f Fl.zero).ws.length := ⟨_, rfl⟩
  rw [← hn] at c1 ⊢
  have h2 := hr.capm
  have h3 := hr.len
  unfold maxLen at h2
  have i1 : (0 : Int) ≤ (f : Int) := by omega
  have i2 : (f : Int) < (D.l.length : Int) := by omega
  clear h hr hws hn e
  go_enter Try.func38, Try.ntmps38
  go_wp2_with fail
  refine HI.out.mono ?_
  rintro e w1 ⟨rfl, rfl⟩
  go_wp2_with fail
  go_ret
  exact ⟨rfl, rfl⟩
set_option maxHeartbeats 400000 in
theorem rwaitNo {B : Nat} {w0 w : World} {b g cap : Nat} {D : Dk} (h : IsR B w0 w b g cap D) (f : Int) (hf : f < 0 ∨ D.l.length ≤ f) :
    Calls Try.prog 38 #[.pointer (some ⟨b, 0, none⟩), .int .i64 f] w fun e w' => e = .returned (.int .i64 0) ∧ w = w' := by
  have HI := Lib.hid (risW h f)
  have e : D.out f = true := by unfold Dk.out; exact decide_eq_true hf
  rw [e] at HI
  clear h e hf
  go_enter Try.func38, Try.ntmps38
  go_wp2_with fail
  refine HI.out.mono ?_
  rintro e w1 ⟨rfl, rfl⟩
  go_wp2_with fail
  go_ret
  exact ⟨rfl, rfl⟩
end Go.Proofs.Ytennhmnmoamleaa
