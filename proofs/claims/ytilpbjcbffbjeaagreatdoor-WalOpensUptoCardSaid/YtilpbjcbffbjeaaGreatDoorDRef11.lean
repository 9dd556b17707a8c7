/- The document's disk: all calls whole; Copy. -/
import Derived.Test.YtilpbjcbffbjeaaGreatDoorDRef10
namespace Go.Proofs.YtilpbjcbffbjeaaGreatDoor
set_option linter.unusedVariables false
set_option maxRecDepth 100000
open Go.RowKit
/-- Arm, whatever is asked. -/
def Dk.armX (D : Dk) (n : Int) (css : List (List Int)) : Dk × Int := if D.dead = true then (D, 2) else if n < 0 then (D, 1) else (⟨D.l, n.toNat, css, D.dead⟩, 0)
section
variable {B : Nat} {w0 w : World} {b g cap : Nat} {D : Dk}
set_option maxHeartbeats 400000 in
theorem rsyncDead (h : IsR B w0 w b g cap D) (hd : D.dead = true) (f : Int) :
    Calls Tryz.prog 106 #[.pointer (some ⟨b, 0, none⟩), .int .i64 f] w fun e w' => e = .returned (.int .i64 2) ∧ Below w.heap.size w w' := by
  have c3 := h.cells.2.2.2
  rw [hd] at c3
  clear h hd
  go_enter Tryz.func106, Tryz.ntmps106
  go_wp2_with fail
  go_ret
  exact ⟨rfl, Below.refl _ _⟩
set_option maxHeartbeats 400000 in
theorem rsyncOut (h : IsR B w0 w b g cap D) (hd : D.dead = false) (f : Int) (hf : D.out f = true) :
    Calls Tryz.prog 106 #[.pointer (some ⟨b, 0, none⟩), .int .i64 f] w fun e w' => e = .returned (.int .i64 160) ∧ Below w.heap.size w w' := by
  have c3 := h.cells.2.2.2
  rw [hd] at c3
  have HI := Lib.hid (h.out_yes f hf)
  clear h hd hf
  go_enter Tryz.func106, Tryz.ntmps106
  go_wp2_with fail
  refine HI.out.mono ?_
  rintro e w1 ⟨rfl, rfl⟩
  go_wp2_with fail
  go_ret
  exact ⟨rfl, Below.refl _ _⟩
theorem rsyncA (h : IsR B w0 w b g cap D) (hok : DOk D) (f : Int) : Calls Tryz.prog 106 #[.pointer (some ⟨b, 0, none⟩), .int .i64 f] w (RPost B w0 w b (D.syncX f)) := by
  by_cases hd : D.dead = true
  · rw [show D.syncX f = (D, 2) by unfold Dk.syncX; rw [if_pos hd]]
    exact (rsyncDead h hd f).mono fun e w' ⟨h1, h2⟩ => RPost.same h 2 h1 h2
  · have hd0 : D.dead = false := by simpa using hd
    by_cases ho : D.out f = true
    · rw [show D.syncX f = (D, 160) by unfold Dk.syncX; rw [if_neg hd, if_pos ho]]
      exact (rsyncOut h hd0 f ho).mono fun e w' ⟨h1, h2⟩ => RPost.same h 160 h1 h2
    · have ho0 : D.out f = false := by simpa using ho
      obtain ⟨n, rfl, hn⟩ := out_cases ho0
      rw [show D.syncX (n : Int) = D.sync n by unfold Dk.syncX; rw [if_neg hd, if_neg ho, Int.toNat_natCast]]
      exact rsyncW h hok hd0 n hn
set_option maxHeartbeats 400000 in
theorem rcutDead (h : IsR B w0 w b g cap D) (hd : D.dead = true) (f n : Int) :
    Calls Tryz.prog 108 #[.pointer (some ⟨b, 0, none⟩), .int .i64 f, .int .i64 n] w fun e w' => e = .returned (.int .i64 2) ∧ Below w.heap.size w w' := by
  have c3 := h.cells.2.2.2
  rw [hd] at c3
  clear h hd
  go_enter Tryz.func108, Tryz.ntmps108
  go_wp2_with fail
  go_ret
  exact ⟨rfl, Below.refl _ _⟩
set_option maxHeartbeats 400000 in
theorem rcutOut (h : IsR B w0 w b g cap D) (hd : D.dead = false) (f n : Int) (hf : D.out f = true) :
    Calls Tryz.prog 108 #[.pointer (some ⟨b, 0, none⟩), .int .i64 f, .int .i64 n] w fun e w' => e = .returned (.int .i64 160) ∧ Below w.heap.size w w' := by
  have c3 := h.cells.2.2.2
  rw [hd] at c3
  have HI := Lib.hid (h.out_yes f hf)
  clear h hd hf
  go_enter Tryz.func108, Tryz.ntmps108
  go_wp2_with fail
  refine HI.out.mono ?_
  rintro e w1 ⟨rfl, rfl⟩
  go_wp2_with fail
  go_ret
  exact ⟨rfl, Below.refl _ _⟩
set_option maxHeartbeats 800000 in
theorem rcutNo (h : IsR B w0 w b g cap D) (hd : D.dead = false) (hn32 : D.l.length ≤ 32) (hsz : ∀ f, f < D.l.length → (D.l.getD f Fl.zero).safe.size ≤ 262144 ∧ (D.l.getD f Fl.zero).ws.length ≤ 1099511627776) (f : Nat) (hf : f < D.l.length) (n : Int)
    (hc : 0 < (D.l.getD f Fl.zero).ws.length ∨ ((D.l.getD f Fl.zero).ws.length = 0 ∧ n < 0) ∨ ((D.l.getD f Fl.zero).ws.length = 0 ∧ 0 ≤ n ∧ ((D.l.getD f Fl.zero).safe.size : Int) < n)) :
    Calls Tryz.prog 108 #[.pointer (some ⟨b, 0, none⟩), .int .i64 (f : Nat), .int .i64 n] w fun e w' => e = .returned (.int .i64 162) ∧ Below w.heap.size w w' := by
  have c3 := h.cells.2.2.2
  rw [hd] at c3
  have HI := Lib.hid (h.out_no f hf)
  obtain ⟨v0, c00, hrf⟩ := h.cells.1
  have hfm := hrf.form
  subst hfm
  have h2 := hrf.len
  have h3 := hrf.capm
  unfold maxLen at h3
  have c1 := hrf.safe f hf
  obtain ⟨u, c2, hws⟩ := hrf.ws f hf
  have hz := hsz f hf
  obtain ⟨x, hx⟩ : ∃ x, x = D.l.getD f Fl.zero := ⟨_, rfl⟩
  rw [← hx] at c1 hws hc hz
  obtain ⟨p, c, rfl, _⟩ := hws.form
  obtain ⟨m, hm⟩ : ∃ m, m = x.ws.length := ⟨_, rfl⟩
  obtain ⟨S0, hS0⟩ : ∃ s, s = x.safe := ⟨_, rfl⟩
  rw [← hm] at c2 hc hz
  rw [← hS0] at c1 hc hz
  have i1 : (0 : Int) ≤ (f : Int) := by omega
  have i2 : (f : Int) < (D.l.length : Int) := by omega
  clear h hd hrf hws hx hm hS0 hsz
  rcases hc with hc | ⟨hm0, hc⟩ | ⟨hm0, hc0, hc⟩
  · have hy : decide ((0 : Int) < (m : Int)) = true := by simp; omega
    go_enter Tryz.func108, Tryz.ntmps108
    go_wp2_with fail
    refine HI.out.mono ?_
    rintro e w1 ⟨rfl, rfl⟩
    go_wp2_with fail
    go_ret
    exact ⟨rfl, Below.refl _ _⟩
  · subst hm0
    go_enter Tryz.func108, Tryz.ntmps108
    go_wp2_with fail
    refine HI.out.mono ?_
    rintro e w1 ⟨rfl, rfl⟩
    go_wp2_with fail
    go_ret
    exact ⟨rfl, Below.refl _ _⟩
  · subst hm0
    go_enter Tryz.func108, Tryz.ntmps108
    go_wp2_with fail
    refine HI.out.mono ?_
    rintro e w1 ⟨rfl, rfl⟩
    go_wp2_with fail
    go_ret
    exact ⟨rfl, Below.refl _ _⟩
theorem safe_le (x : Fl) : x.safe.size ≤ (rd x).size := by rw [size_rd]; omega
theorem rcutA (h : IsR B w0 w b g cap D) (hok : DOk D) (f n : Int) : Calls Tryz.prog 108 #[.pointer (some ⟨b, 0, none⟩), .int .i64 f, .int .i64 n] w (RPost B w0 w b (D.cutX f n)) := by
  by_cases hd : D.dead = true
  · rw [show D.cutX f n = (D, 2) by unfold Dk.cutX; rw [if_pos hd]]
    exact (rcutDead h hd f n).mono fun e w' ⟨h1, h2⟩ => RPost.same h 2 h1 h2
  · have hd0 : D.dead = false := by simpa using hd
    by_cases ho : D.out f = true
    · rw [show D.cutX f n = (D, 160) by unfold Dk.cutX; rw [if_neg hd, if_pos ho]]
      exact (rcutOut h hd0 f n ho).mono fun e w' ⟨h1, h2⟩ => RPost.same h 160 h1 h2
    · have ho0 : D.out f = false := by simpa using ho
      obtain ⟨k, rfl, hk⟩ := out_cases ho0
      by_cases hc : 0 < (D.l.getD k Fl.zero).ws.length ∨ n < 0 ∨ ((D.l.getD k Fl.zero).safe.size : Int) < n
      · rw [show D.cutX (k : Int) n = (D, 162) by unfold Dk.cutX; rw [if_neg hd, if_neg ho, Int.toNat_natCast]; rw [if_pos hc]]
        exact (rcutNo h hd0 hok.n (fun f hf => ⟨Nat.le_trans (safe_le _) (hok.size f hf), hok.many f hf⟩) k hk n (by omega)).mono fun e w' ⟨h1, h2⟩ => RPost.same h 162 h1 h2
      · obtain ⟨m, rfl⟩ : ∃ m : Nat, n = m := ⟨n.toNat, by omega⟩
        rw [show D.cutX (k : Int) (m : Int) = D.cut k m by unfold Dk.cutX; rw [if_neg hd, if_neg ho, Int.toNat_natCast]; rw [if_neg hc, Int.toNat_natCast]]
        exact rcutW h hok hd0 k hk m (by omega) (by omega)
set_option maxHeartbeats 400000 in
theorem rreadDead (h : IsR B w0 w b g cap D) (hd : D.dead = true) (f : Int) :
    Calls Tryz.prog 107 #[.pointer (some ⟨b, 0, none⟩), .int .i64 f] w fun e w' => e = .returned (.tuple #[.string ⟨#[]⟩, .int .i64 2]) ∧ Below w.heap.size w w' := by
  have c3 := h.cells.2.2.2
  rw [hd] at c3
  clear h hd
  go_enter Tryz.func107, Tryz.ntmps107
  go_wp2_with fail
  go_ret2
  exact ⟨rfl, Below.refl _ _⟩
set_option maxHeartbeats 400000 in
theorem rreadOut (h : IsR B w0 w b g cap D) (hd : D.dead = false) (f : Int) (hf : D.out f = true) :
    Calls Tryz.prog 107 #[.pointer (some ⟨b, 0, none⟩), .int .i64 f] w fun e w' => e = .returned (.tuple #[.string ⟨#[]⟩, .int .i64 160]) ∧ Below w.heap.size w w' := by
  have c3 := h.cells.2.2.2
  rw [hd] at c3
  have HI := Lib.hid (h.out_yes f hf)
  clear h hd hf
  go_enter Tryz.func107, Tryz.ntmps107
  go_wp2_with fail
  refine HI.out.mono ?_
  rintro e w1 ⟨rfl, rfl⟩
  go_wp2_with fail
  go_ret2
  exact ⟨rfl, Below.refl _ _⟩
set_option maxHeartbeats 400000 in
theorem rreadYes (h : IsR B w0 w b g cap D) (hok : DOk D) (hd : D.dead = false) (f : Nat) (hf : f < D.l.length) :
    Calls Tryz.prog 107 #[.pointer (some ⟨b, 0, none⟩), .int .i64 (f : Nat)] w fun e w' => e = .returned (.tuple #[.string (rd (D.l.getD f Fl.zero)), .int .i64 0]) ∧ Below w.heap.size w w' := by
  have c3 := h.cells.2.2.2
  rw [hd] at c3
  have HI := Lib.hid (h.out_no f hf)
  obtain ⟨v0, c00, hrf⟩ := h.cells.1
  have hfm := hrf.form
  subst hfm
  have h2 := hrf.len
  have h3 := hrf.capm
  unfold maxLen at h3
  have c1 := hrf.safe f hf
  obtain ⟨u, c2, hws⟩ := hrf.ws f hf
  obtain ⟨x, hx⟩ : ∃ x, x = D.l.getD f Fl.zero := ⟨_, rfl⟩
  have h7 := hok.size f hf
  have h8 := hok.many f hf
  rw [← hx] at c1 hws h7 h8 ⊢
  have HW := Lib.hid (rwholeW x u w hws (by omega) (by omega))
  clear h hrf hws hx hok h8 hd
  have i1 : (0 : Int) ≤ (f : Int) := by omega
  have i2 : (f : Int) < (D.l.length : Int) := by omega
  go_enter Tryz.func107, Tryz.ntmps107
  go_wp2_with fail
  refine HI.out.mono ?_
  rintro e w1 ⟨rfl, rfl⟩
  go_wp2_with fail
  refine HW.out.mono ?_
  rintro e w1 ⟨rfl, hb⟩
  go_wp2_with fail
  go_ret2
  exact ⟨rfl, hb⟩
theorem rreadA (h : IsR B w0 w b g cap D) (hok : DOk D) (f : Int) :
    Calls Tryz.prog 107 #[.pointer (some ⟨b, 0, none⟩), .int .i64 f] w fun e w' => e = .returned (.tuple #[.string (D.readX f).1, .int .i64 (D.readX f).2]) ∧ Below w.heap.size w w' := by
  by_cases hd : D.dead = true
  · rw [show D.readX f = (⟨#[]⟩, 2) by unfold Dk.readX; rw [if_pos hd]]
    exact rreadDead h hd f
  · have hd0 : D.dead = false := by simpa using hd
    by_cases ho : D.out f = true
    · rw [show D.readX f = (⟨#[]⟩, 160) by unfold Dk.readX; rw [if_neg hd, if_pos ho]]
      exact rreadOut h hd0 f ho
    · have ho0 : D.out f = false := by simpa using ho
      obtain ⟨n, rfl, hn⟩ := out_cases ho0
      rw [show D.readX (n : Int) = (rd (D.l.getD n Fl.zero), 0) by unfold Dk.readX; rw [if_neg hd, if_neg ho, Int.toNat_natCast]]
      exact rreadYes h hok hd0 n hn
set_option maxHeartbeats 400000 in
theorem rarmA (h : IsR B w0 w b g cap D) (n : Int) (cv : Value) (css : List (List Int)) (hcs : Rss w0 cv css) :
    Calls Tryz.prog 37 #[.pointer (some ⟨b, 0, none⟩), .int .i64 n, cv] w (RPost B w0 w b (D.armX n css)) := by
  have c3 := h.cells.2.2.2
  have c1 := h.cells.2.1
  obtain ⟨cv0, c2, _⟩ := h.cells.2.2.1
  obtain ⟨q, qc, rfl, _⟩ := id hcs
  by_cases hd : D.dead = true
  · rw [show D.armX n css = (D, 2) by unfold Dk.armX; rw [if_pos hd]]
    rw [hd] at c3
    have H := Lib.hid h
    clear h hd hcs
    go_enter Tryz.func37, Tryz.ntmps37
    go_wp2_with fail
    go_ret
    exact RPost.same H.out 2 rfl (Below.refl _ _)
  · rw [show D.dead = false by simpa using hd] at c3
    by_cases hn : n < 0
    · rw [show D.armX n css = (D, 1) by unfold Dk.armX; rw [if_neg hd, if_pos hn]]
      have H := Lib.hid h
      clear h hd hcs
      go_enter Tryz.func37, Tryz.ntmps37
      go_wp2_with fail
      go_ret
      exact RPost.same H.out 1 rfl (Below.refl _ _)
    · obtain ⟨m, rfl⟩ : ∃ m : Nat, n = m := ⟨n.toNat, by omega⟩
      rw [show D.armX (m : Int) css = (⟨D.l, m, css, D.dead⟩, 0) by unfold Dk.armX; rw [if_neg hd, if_neg hn, Int.toNat_natCast]]
      have f1 := h.free 1
      have f2 := h.free 2
      have hset := (h.setArmed m).setCh hcs
      have H := Lib.hid hset
      have HC := Lib.hid ((Chg.setCell (fun k => k = b) w (j := 1) rfl (.int .i64 (m : Nat))).trans (Chg.setCell (fun k => k = b) _ (j := 2) rfl (.slice q css.length qc)))
      clear h hd hcs hset
      go_enter Tryz.func37, Tryz.ntmps37
      go_wp2_with fail
      go_ret
      exact ⟨rfl, ⟨g, cap, H.out⟩, HC.out⟩
end
end Go.Proofs.YtilpbjcbffbjeaaGreatDoor
