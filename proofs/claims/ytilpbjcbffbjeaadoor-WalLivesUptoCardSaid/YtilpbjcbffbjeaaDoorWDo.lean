/- A call of a script on a log: append, sync, checkpoint; what it hangs on. -/
import Derived.Test.YtilpbjcbffbjeaaDoorWRun
namespace Go.Proofs.YtilpbjcbffbjeaaDoor
set_option linter.unusedVariables false
set_option maxRecDepth 100000
open Go.RowKit
def doX (l : List Fl) (L : Lg) (kind : Int) (s : ByteArray) : Int × List Fl × Lg :=
  if kind = 0 then appX l L s else if kind = 1 then synX l L else if kind = 2 then cpX l L s else (0, l, L)
section
variable {l k : List Fl} {M f : Nat} {L : Lg} {snap : ByteArray} {ps : List ByteArray}
theorem LInv.do (h : LInv l M f L snap ps) (kind : Int) (s : ByteArray) : ∃ snap' ps', LInv (doX l L kind s).2.1 (M + 1) f (doX l L kind s).2.2 snap' ps' := by
  unfold doX
  split
  · obtain ⟨ps', h1, _⟩ := h.app s
    exact ⟨snap, ps', h1⟩
  · split
    · exact ⟨snap, ps, h.syn.mono (by omega)⟩
    · split
      · obtain ⟨sn, ps', h1, _⟩ := h.cp s
        exact ⟨sn, ps', h1⟩
      · exact ⟨snap, ps, h.mono (by omega)⟩
/-- The other files stay. -/
theorem doX_frame (h : LInv l M f L snap ps) (kind : Int) (s : ByteArray) : (doX l L kind s).2.1.length = l.length ∧ ∀ j, j ≠ f → j ≠ f + 1 → (doX l L kind s).2.1.getD j Fl.zero = l.getD j Fl.zero := by
  have hc := h.counts
  have ho := h.oth.1
  unfold doX
  split
  · exact ⟨(appX_frame l L s).1, fun j h1 h2 => (appX_frame l L s).2 j (by omega)⟩
  · split
    · exact ⟨(synX_frame l L).1, fun j h1 h2 => (synX_frame l L).2 j (by omega)⟩
    · split
      · exact ⟨(cpX_frame l L s).1, fun j h1 h2 => (cpX_frame l L s).2 j (by omega) (by omega)⟩
      · exact ⟨rfl, fun _ _ _ => rfl⟩
theorem LInv.frame (h : LInv l M f L snap ps) {M' : Nat} (hm : MInv k M') (hM : M ≤ M') (hl : k.length = l.length) (h0 : k.getD f Fl.zero = l.getD f Fl.zero) (h1 : k.getD (f + 1) Fl.zero = l.getD (f + 1) Fl.zero) : LInv k M' f L snap ps := by
  have hc := h.counts
  have ho := h.oth.1
  refine ⟨hm, by rw [hl]; exact h.f1, h.first, h.counts, h.live, h.n, h.gen1, Nat.le_trans h.gen2 hM, ?_, ?_, h.sn, h.pl⟩
  · rcases hc with e | e
    · rw [e, h0, ← e]; exact h.bytes
    · rw [e, h1, ← e]; exact h.bytes
  · have := h.other
    rcases ho with e | e
    · rw [e] at this ⊢; rw [h0]; exact this
    · rw [e] at this ⊢; rw [h1]; exact this
/-- It hangs on the log's own files alone. -/
theorem doX_same (h : LInv l M f L snap ps) (hl : k.length = l.length) (h0 : k.getD f Fl.zero = l.getD f Fl.zero) (h1 : k.getD (f + 1) Fl.zero = l.getD (f + 1) Fl.zero) (kind : Int) (s : ByteArray) :
    (doX k L kind s).1 = (doX l L kind s).1 ∧ (doX k L kind s).2.2 = (doX l L kind s).2.2 ∧ (doX k L kind s).2.1.getD f Fl.zero = (doX l L kind s).2.1.getD f Fl.zero ∧ (doX k L kind s).2.1.getD (f + 1) Fl.zero = (doX l L kind s).2.1.getD (f + 1) Fl.zero := by
  have hc := h.counts
  have hcl := h.cl
  have ho := h.oth
  have hf1 := h.f1
  have ec : k.getD L.counts Fl.zero = l.getD L.counts Fl.zero := by rcases hc with e | e <;> rw [e] <;> assumption
  have gs : ∀ (j i : Nat) (x : Fl), j = f ∨ j = f + 1 → (k.set i x).getD j Fl.zero = (l.set i x).getD j Fl.zero := by
    intro j i x hj
    have hjl : j < l.length := by omega
    by_cases e : i = j
    · subst e
      rw [getD_set_self _ _ _ _ (by omega), getD_set_self _ _ _ _ hjl]
    · rw [getD_set_ne _ _ _ _ _ e, getD_set_ne _ _ _ _ _ e]
      rcases hj with e | e <;> rw [e] <;> assumption
  have gs2 : ∀ (j i1 i2 : Nat) (x y : Fl), j = f ∨ j = f + 1 → ((k.set i1 x).set i2 y).getD j Fl.zero = ((l.set i1 x).set i2 y).getD j Fl.zero := by
    intro j i1 i2 x y hj
    have hjl : j < l.length := by omega
    by_cases e : i2 = j
    · subst e
      rw [getD_set_self _ _ _ _ (by rw [List.length_set]; omega), getD_set_self _ _ _ _ (by rw [List.length_set]; exact hjl)]
    · rw [getD_set_ne _ _ _ _ _ e, getD_set_ne _ _ _ _ _ e]; exact gs j i1 x hj
  unfold doX
  split
  · unfold appX
    split
    · exact ⟨rfl, rfl, h0, h1⟩
    · rw [ec]
      split
      · exact ⟨rfl, rfl, h0, h1⟩
      · exact ⟨rfl, rfl, gs _ _ _ (.inl rfl), gs _ _ _ (.inr rfl)⟩
  · split
    · unfold synX
      rw [ec]
      exact ⟨rfl, rfl, gs _ _ _ (.inl rfl), gs _ _ _ (.inr rfl)⟩
    · split
      · unfold cpX
        split
        · exact ⟨rfl, rfl, h0, h1⟩
        · exact ⟨rfl, rfl, gs2 _ _ _ _ _ (.inl rfl), gs2 _ _ _ _ _ (.inr rfl)⟩
      · exact ⟨rfl, rfl, h0, h1⟩
end
section
variable {B b g cap lb : Nat} {w0 w w' : World} {l : List Fl} {M f : Nat} {L L2 : Lg} {D D2 : Dk} {snap : ByteArray} {ps : List ByteArray}
theorem LAt.muts (h : LAt B w0 b g cap lb D L w) : Muts (fun k => k = lb ∨ k = b ∨ k = g) w := by
  intro k hk hS cur T fr hh
  rcases hS with e | e | e
  · exact h.log.muts k hk e cur T fr hh
  · exact h.on.disk.muts k hk (.inl e) cur T fr hh
  · exact h.on.disk.muts k hk (.inr e) cur T fr hh
/-- A log stays where others' blocks turn. -/
theorem LAt.apart {S : Nat → Prop} (h : LAt B w0 b g cap lb D L w) (hm : Muts S w) (hc : Chg S w w') (n1 : ¬ S lb) (n2 : ¬ S b) (n3 : ¬ S g) (hb : Below B w0 w') : LAt B w0 b g cap lb D L w' :=
  ⟨⟨h.on.disk.keep hc n2 n3 hm, hb, h.on.bB, h.on.gB, h.on.le⟩, h.log.keep hc n1, h.lB⟩
/-- Another log on the same disk stays. -/
theorem LAt.twin {lb2 : Nat} (h2 : LAt B w0 b g cap lb2 D L2 w) (h : LAt B w0 b g cap lb D2 L w') (hc : Chg (fun k => k = lb ∨ k = b ∨ k = g) w w') (hn : lb2 ≠ lb) : LAt B w0 b g cap lb2 D2 L2 w' :=
  ⟨h.on, h2.log.keep hc (fun e => by have := h2.log.ne h2.on.disk; omega), h2.lB⟩
end
end Go.Proofs.YtilpbjcbffbjeaaDoor
