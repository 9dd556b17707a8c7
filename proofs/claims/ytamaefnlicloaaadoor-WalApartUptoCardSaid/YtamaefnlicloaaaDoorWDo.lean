/- A call of a script on a log: append, sync, checkpoint; what it hangs on. -/
import Derived.Test.YtamaefnlicloaaaDoorWRun
namespace Go.Proofs.YtamaefnlicloaaaDoor
set_option linter.unusedVariables false
set_option maxRecDepth 100000
open Go.RowKit
def doX (l : List Fl) (L : Lg) (kind : Int) (s : ByteArray) : Int × List Fl × Lg :=
  if kind = 0 then appX l L s else if kind = 1 then synX l L else if kind = 2 then cpX l L s else (0, l, L)
section
variable {l k : List Fl} {M f : Nat} {L : Lg} {snap : ByteArray} {ps : List ByteArray}
theorem LInv.do (h : LInv l M f L snap ps) (kind : Int) (s : ByteArray) : ∃ snap' ps', LInv (doX l L kind s).2.1 (M + 1) f (doX l L kind s).2.2 snap' ps' := by
  unfold doX
  split
  · obtain ⟨ps', h1, _⟩ := h.app s
    exact ⟨snap, ps', h1⟩
  · split
    · exact ⟨snap, ps, h.syn.mono (by omega)⟩
    · split
      · obtain ⟨sn, ps', h1, _⟩ := h.cp s
        exact ⟨sn, ps', h1⟩
      · exact ⟨snap, ps, h.mono (by omega)⟩
/-- The other files stay. -/
theorem doX_frame (h : LInv l M f L snap ps) (kind : Int) (s : ByteArray) : (doX l L kind s).2.1.length = l.length ∧ ∀ j, j ≠ f → j ≠ f + 1 → (doX l L kind s).2.1.getD j Fl.zero = l.getD j Fl.zero := by
  have hc := h.counts
  have ho := h.oth.1
  unfold doX
  split
  · exact ⟨(appX_frame l L s).1, fun j h1 h2 => (appX_frame l L s).2 j (by omega)⟩
  · split
    · exact ⟨(synX_frame l L).1, fun j h1 h2 => (synX_frame l L).2 j (by omega)⟩
    · split
      · exact ⟨(cpX_frame l L s).1, fun j h1 h2 => (cpX_frame l L s).2 j (by omega) (by omega)⟩
      · exact ⟨rfl, fun _ _ _ => rfl⟩
theorem LInv.frame (h : LInv l M f L snap ps) {M' : Nat} (hm : MInv k M') (hM : M ≤ M') (hl : k.length = l.length) (h0 : k.getD f Fl.zero = l.getD f Fl.zero) (h1 : k.getD (f + 1) Fl.zero = l.getD (f + 1) Fl.zero) : LInv k M' f L snap ps := by
  have hc := h.counts
  have ho := h.oth.1
  refine ⟨hm, by rw [hl]; exact h.f1, h.first, h.counts, h.live, h.n, h.gen1, Nat.le_trans h.gen2 hM, ?_, ?_, h.sn, h.pl⟩
  · rcases hc with e | e
    · rw [e, h0, ← e]; exact h.bytes
    · rw [e, h1, ← e]; exact h.bytes
  · have := h.other
    rcases ho with e | e
    · rw [e] at this ⊢; rw [h0]; exact this
    · rw [e] at this ⊢; rw [h1]; exact this
/-- It hangs on the log's own files alone. -/
theorem doX_same (h : LInv l M f L snap ps) (hl : k.length = l.length) (h0 : k.getD f Fl.zero = l.getD f Fl.zero) (h1 : k.getD (f + 1) Fl.zero = l.getD (f + 1) Fl.zero) (kind : Int) (s : ByteArray) :
    (doX k L kind s).1 = (doX l L kind s).1 ∧ (doX k L kind s).2.2 = (doX l L kind s).2.2 ∧ (doX k L kind s).2.1.getD f Fl.zero = (doX l L kind s).2.1.getD f Fl.zero ∧ (doX k L kind s).2.1.getD (f + 1) Fl.zero = (doX l L kind s).2.1.getD (f + 1) Fl.zero := by
  have hc := h.counts
  have hcl := h.cl
  have ho := h.oth
  have hf1 := h.f1
  have ec : k.getD L.counts Fl.zero = l.getD L.counts Fl.zero := by rcases hc with e | e <;> rw [e] <;> assumption
  have gs : ∀ (j i : Nat) (x : Fl), j = f ∨ j = f + 1 → (k.set i x).getD j Fl.zero = (l.set i x).getD j Fl.zero := by
    intro j i x hj
    have hjl : j < l.length := by omega
    by_cases e : i = j
    · subst e
      rw [getD_set_self _ _ _ _ (by omega), getD_set_self _ _ _ _ hjl]
    · rw [getD_set_ne _ _ _ _ _ e, getD_set_ne _ _ _ _ _ e]
      rcases hj with e | e <;> rw [e] <;> assumption
  have gs2 : ∀ (j i1 i2 : Nat) (x y : Fl), j = f ∨ j = f + 1 → ((k.set i1 x).set i2 y).getD j Fl.zero = ((l.set i1 x).set i2 y).getD j Fl.zero := by
    intro j i1 i2 x y hj
    have hjl : j < l.length := by omega
    by_cases e : i2 = j
    · subst e
      rw [getD_set_self _ _ _ _ (by rw [List.length_set]; omega), getD_set_self _ _ _ _ (by rw [List.length_set]; exact hjl)]
    · rw [getD_set_ne _ _ _ _ _ e, getD_set_ne _ _ _ _ _ e]; exact gs j i1 x hj
  unfold doX
  split
  · unfold appX
    split
    · exact ⟨rfl, rfl, h0, h1⟩
    · rw [ec]
      split
      · exact ⟨rfl, rfl, h0, h1⟩
      · exact ⟨rfl, rfl, gs _ _ _ (.inl rfl), gs _ _ _ (.inr rfl)⟩
  · split
    · unfold synX
      rw [ec]
      exact ⟨rfl, rfl, gs _ _ _ (.inl rfl), gs _ _ _ (.inr rfl)⟩
    · split
      · unfold cpX
        split
        · exact ⟨rfl, rfl, h0, h1⟩
        · exact ⟨rfl, rfl, gs2 _ _ _ _ _ (.inl rfl), gs2 _ _ _ _ _ (.inr rfl)⟩
      · exact ⟨rfl, rfl, h0, h1⟩
end
section
variable {B b g cap lb : Nat} {w0 w w' : World} {l : List Fl} {M f : Nat} {L L2 : Lg} {D D2 : Dk} {snap : ByteArray} {ps : List ByteArray}
set_option maxHeartbeats 1600000 in
theorem doW (h : LAt B w0 b g cap lb (dk0 l) L w) (hi : LInv l M f L snap ps) (hM : M < 1099511627775) (on kind n : Int) (s : ByteArray) (cv : Value) (hcv : ∃ p n c, cv = .slice p n c) :
    Calls Tryd.prog 21 #[.pointer (some ⟨lb, 0, none⟩), .agg #[.int .i64 on, .int .i64 kind, .int .i64 n, .string s, cv]] w fun e w' => e = .returned (.int .i64 (doX l L kind s).1) ∧ LAt B w0 b g cap lb (dk0 (doX l L kind s).2.1) (doX l L kind s).2.2 w' ∧ Chg (fun k => k = lb ∨ k = b ∨ k = g) w w' := by
  obtain ⟨cp, cn, cc, rfl⟩ := hcv
  obtain ⟨W, hW⟩ : ∃ W, W = w.alloc (.cells #[.int .i64 on, .int .i64 kind, .int .i64 n, .string s, .slice cp cn cc] 51) := ⟨_, rfl⟩
  have hbW : Below w.heap.size w W := by rw [hW]; exact (Below.refl _ _).alloc (Nat.le_refl _) _
  have HL := Lib.hid (h.grow hbW)
  have HB := Lib.hid hbW
  have HWE := Lib.hid hW
  have HI := Lib.hid hi
  clear h hi hbW hW
  by_cases k0 : kind = 0
  · subst k0
    have HC := Lib.hid (appI HL.out HI.out (by omega) s)
    rw [show doX l L 0 s = appX l L s from rfl]
    go_enter Tryd.func21, Tryd.ntmps21
    go_wp2_with fail
    rw [← HWE.out]
    refine HC.out.mono ?_
    rintro e w2 ⟨rfl, h2, h3⟩
    go_wp2_with fail
    go_ret
    exact ⟨rfl, h2, (Chg.of_below _ HB.out).trans h3⟩
  by_cases k1 : kind = 1
  · subst k1
    have HC := Lib.hid (synI HL.out HI.out (by omega))
    rw [show doX l L 1 s = synX l L from rfl]
    go_enter Tryd.func21, Tryd.ntmps21
    go_wp2_with fail
    rw [← HWE.out]
    refine HC.out.mono ?_
    rintro e w2 ⟨rfl, h2, h3⟩
    go_wp2_with fail
    go_ret
    exact ⟨rfl, h2, (Chg.of_below _ HB.out).trans h3⟩
  by_cases k2 : kind = 2
  · subst k2
    have HC := Lib.hid (cpI HL.out HI.out (by omega) s)
    rw [show doX l L 2 s = cpX l L s from rfl]
    go_enter Tryd.func21, Tryd.ntmps21
    go_wp2_with fail
    rw [← HWE.out]
    refine HC.out.mono ?_
    rintro e w2 ⟨rfl, h2, h3⟩
    go_wp2_with fail
    go_ret
    exact ⟨rfl, h2, (Chg.of_below _ HB.out).trans h3⟩
  · have e0 : (kind == 0) = false := by rw [beq_eq_false_iff_ne]; exact k0
    have e1 : (kind == 1) = false := by rw [beq_eq_false_iff_ne]; exact k1
    have e2 : (kind == 2) = false := by rw [beq_eq_false_iff_ne]; exact k2
    have HX : Hid (doX l L kind s = (0, l, L)) := by unfold Hid doX; rw [if_neg k0, if_neg k1, if_neg k2]
    rw [HX.out]
    clear k0 k1 k2
    go_enter Tryd.func21, Tryd.ntmps21
    go_wp2_with fail
    go_ret
    rw [← HWE.out]
    exact ⟨rfl, HL.out, Chg.of_below _ HB.out⟩
theorem LAt.muts (h : LAt B w0 b g cap lb D L w) : Muts (fun k => k = lb ∨ k = b ∨ k = g) w := by
  intro k hk hS cur T fr hh
  rcases hS with e | e | e
  · exact h.log.muts k hk e cur T fr hh
  · exact h.on.disk.muts k hk (.inl e) cur T fr hh
  · exact h.on.disk.muts k hk (.inr e) cur T fr hh
/-- A log stays where others' blocks turn. -/
theorem LAt.apart {S : Nat → Prop} (h : LAt B w0 b g cap lb D L w) (hm : Muts S w) (hc : Chg S w w') (n1 : ¬ S lb) (n2 : ¬ S b) (n3 : ¬ S g) (hb : Below B w0 w') : LAt B w0 b g cap lb D L w' :=
  ⟨⟨h.on.disk.keep hc n2 n3 hm, hb, h.on.bB, h.on.gB, h.on.le⟩, h.log.keep hc n1, h.lB⟩
/-- Another log on the same disk stays. -/
theorem LAt.twin {lb2 : Nat} (h2 : LAt B w0 b g cap lb2 D L2 w) (h : LAt B w0 b g cap lb D2 L w') (hc : Chg (fun k => k = lb ∨ k = b ∨ k = g) w w') (hn : lb2 ≠ lb) : LAt B w0 b g cap lb2 D2 L2 w' :=
  ⟨h.on, h2.log.keep hc (fun e => by have := h2.log.ne h2.on.disk; omega), h2.lB⟩
end
end Go.Proofs.YtamaefnlicloaaaDoor
