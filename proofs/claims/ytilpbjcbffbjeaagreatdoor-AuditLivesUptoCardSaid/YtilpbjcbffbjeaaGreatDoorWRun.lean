/- A log in two files, its calls: what they tell and leave. -/
import Derived.Test.YtilpbjcbffbjeaaGreatDoorWInv
import Derived.Test.YtilpbjcbffbjeaaGreatDoorPkD
namespace Go.Proofs.YtilpbjcbffbjeaaGreatDoor
set_option linter.unusedVariables false
set_option maxRecDepth 100000
open Go.RowKit
section
variable {B b g cap lb : Nat} {w0 w : World} {l : List Fl} {M f : Nat} {L : Lg} {snap : ByteArray} {ps : List ByteArray}
theorem appI (h : LAt B w0 b g cap lb (dk0 l) L w) (hi : LInv l M f L snap ps) (hM : M < 1099511627776) (s : ByteArray) :
    Calls Tryz.prog 74 #[.pointer (some ⟨lb, 0, none⟩), .string s] w fun e w' => e = .returned (.int .i64 (appX l L s).1) ∧ LAt B w0 b g cap lb (dk0 (appX l L s).2.1) (appX l L s).2.2 w' ∧ Chg (fun k => k = lb ∨ k = b ∨ k = g) w w' := by
  have hok := hi.m.ok (by omega)
  unfold appX
  by_cases h1 : 16384 < s.size
  · rw [if_pos h1]
    exact (appendLong h.log s hi.live h1).mono fun e w' ⟨q1, q2⟩ => ⟨q1, q2 ▸ h, q2 ▸ Chg.refl _ _⟩
  rw [if_neg h1]
  by_cases h2 : roomZ (rd (l.getD L.counts Fl.zero)).size L.n < (s.size : Int)
  · rw [if_pos h2]
    exact (appendFull h.log h.on.disk hok s hi.live (by omega) hi.cl h2).mono fun e w' ⟨q1, q2⟩ => ⟨q1, h.grow q2, Chg.of_below _ q2⟩
  rw [if_neg h2]
  obtain ⟨r1, r2, r3⟩ := room_ge h2
  exact h.appendC hok s hi.live (by omega) hi.cl h2 (hi.m.manyL hM) (writeX_L l L.counts (recS (L.n + 1) s) hi.cl (by rw [size_recS]; omega))
theorem synI (h : LAt B w0 b g cap lb (dk0 l) L w) (hi : LInv l M f L snap ps) (hM : M < 1099511627776) :
    Calls Tryz.prog 76 #[.pointer (some ⟨lb, 0, none⟩)] w fun e w' => e = .returned (.int .i64 (synX l L).1) ∧ LAt B w0 b g cap lb (dk0 (synX l L).2.1) (synX l L).2.2 w' ∧ Chg (fun k => k = lb ∨ k = b ∨ k = g) w w' :=
  h.syncC (hi.m.ok (by omega)) hi.live (syncX_L l L.counts hi.cl)
theorem cpI (h : LAt B w0 b g cap lb (dk0 l) L w) (hi : LInv l M f L snap ps) (hM : M < 1099511627775) (s : ByteArray) :
    Calls Tryz.prog 78 #[.pointer (some ⟨lb, 0, none⟩), .string s] w fun e w' => e = .returned (.int .i64 (cpX l L s).1) ∧ LAt B w0 b g cap lb (dk0 (cpX l L s).2.1) (cpX l L s).2.2 w' ∧ Chg (fun k => k = lb ∨ k = b ∨ k = g) w w' := by
  have hok := hi.m.ok (by omega)
  have hc := hi.cl
  have ho := hi.oth
  have hn := hi.m.n
  unfold cpX
  by_cases h1 : 16384 < s.size
  · rw [if_pos h1]
    exact (checkpointLong h.log s hi.live h1).mono fun e w' ⟨q1, q2⟩ => ⟨q1, h.grow q2, Chg.of_below _ q2⟩
  rw [if_neg h1]
  have hoz := hi.other
  -- the disk behind each step
  have m1 : MInv (l.set L.other ⟨⟨#[]⟩, [recS (L.gen + 1) s]⟩) (M + 1) := (hi.m.mono (Nat.le_succ M)).setL _ _ (by rw [rd_one, size_recS]; omega) (by show 1 ≤ M + 1; omega)
  have e1 : (dk0 l).writeX (L.other : Nat) (recS (L.gen + 1) s) = (dk0 (l.set L.other ⟨⟨#[]⟩, [recS (L.gen + 1) s]⟩), 0) := by
    rw [writeX_L l L.other _ ho.2.2.1 (by rw [hoz, rd_zero, size_recS]; show 0 + _ ≤ _; omega), hoz]; rfl
  have m2 : MInv (l.set L.other ⟨recS (L.gen + 1) s, []⟩) (M + 1) := (hi.m.mono (Nat.le_succ M)).setL _ _ (by rw [rd_safe, size_recS]; omega) (Nat.zero_le _)
  have e2 : (dk0 (l.set L.other ⟨⟨#[]⟩, [recS (L.gen + 1) s]⟩)).syncX (L.other : Nat) = (dk0 (l.set L.other ⟨recS (L.gen + 1) s, []⟩), 0) := by
    rw [syncX_L _ _ (by rw [List.length_set]; exact ho.2.2.1), getD_set_self _ _ _ _ ho.2.2.1, rd_one, List.set_set]
  have m3 : MInv ((l.set L.other ⟨recS (L.gen + 1) s, []⟩).set L.counts ⟨rd (l.getD L.counts Fl.zero), []⟩) (M + 1) := m2.setL _ _ (by rw [rd_sync]; exact hi.m.size _ hc) (Nat.zero_le _)
  have e3 : (dk0 (l.set L.other ⟨recS (L.gen + 1) s, []⟩)).syncX (L.counts : Nat) = (dk0 ((l.set L.other ⟨recS (L.gen + 1) s, []⟩).set L.counts ⟨rd (l.getD L.counts Fl.zero), []⟩), 0) := by
    rw [syncX_L _ _ (by rw [List.length_set]; exact hc), getD_set_ne _ _ _ _ _ ho.2.1]
  have e4 : (dk0 ((l.set L.other ⟨recS (L.gen + 1) s, []⟩).set L.counts ⟨rd (l.getD L.counts Fl.zero), []⟩)).cutX (L.counts : Nat) 0 = (dk0 ((l.set L.other ⟨recS (L.gen + 1) s, []⟩).set L.counts Fl.zero), 0) := by
    have := cutX_L ((l.set L.other ⟨recS (L.gen + 1) s, []⟩).set L.counts ⟨rd (l.getD L.counts Fl.zero), []⟩) L.counts 0 (by rw [List.length_set, List.length_set]; exact hc) (by rw [getD_set_self _ _ _ _ (by rw [List.length_set]; exact hc)]) (Nat.zero_le _)
    rw [List.set_set] at this
    refine this.trans ?_
    have ez : (((l.set L.other ⟨recS (L.gen + 1) s, []⟩).set L.counts ⟨rd (l.getD L.counts Fl.zero), []⟩).getD L.counts Fl.zero).safe.extract 0 0 = ⟨#[]⟩ := bs_inj (by rw [bs_extract]; simp; rfl)
    rw [ez]; rfl
  exact h.checkpointC hok s hi.live (by omega) (by have := hi.gen2; omega) (by have := hi.first; have := hi.f1; omega) (by omega) (hi.m.manyL (by omega)) L.other ho.2.2.2 _ _ _ e1 e2 e3 e4 (m1.ok (by omega)) (m2.ok (by omega)) (m3.ok (by omega))
def opX (l : List Fl) (f : Nat) : List Fl := (l.set f ⟨rd (l.getD f Fl.zero), []⟩).set (f + 1) ⟨rd (l.getD (f + 1) Fl.zero), []⟩
theorem opX_get (l : List Fl) (f : Nat) (hf : f + 1 < l.length) : (opX l f).getD f Fl.zero = ⟨rd (l.getD f Fl.zero), []⟩ ∧ (opX l f).getD (f + 1) Fl.zero = ⟨rd (l.getD (f + 1) Fl.zero), []⟩ := by
  unfold opX
  exact ⟨by rw [getD_set_ne _ _ _ _ _ (by omega), getD_set_self _ _ _ _ (by omega)], by rw [getD_set_self _ _ _ _ (by rw [List.length_set]; exact hf)]⟩
theorem length_opX (l : List Fl) (f : Nat) : (opX l f).length = l.length := by unfold opX; rw [List.length_set, List.length_set]
theorem opX_minv {l : List Fl} {M f : Nat} (h : MInv l M) (hf : f + 1 < l.length) : MInv (opX l f) M := (h.setL _ _ (by rw [rd_sync]; exact h.size _ (by omega)) (Nat.zero_le _)).setL _ _ (by rw [rd_sync]; exact h.size _ hf) (Nat.zero_le _)
theorem LInv.op (h : LInv l M f L snap ps) : LInv (opX l f) M f L snap ps := by
  have hg := opX_get l f h.f1
  have ho := h.oth
  refine ⟨opX_minv h.m h.f1, by rw [length_opX]; exact h.f1, h.first, h.counts, h.live, h.n, h.gen1, h.gen2, ?_, ?_, h.sn, h.pl⟩
  · rcases h.counts with e | e
    · rw [e, hg.1, rdL_rd, ← e, h.bytes]
    · rw [e, hg.2, rdL_rd, ← e, h.bytes]
  · have hz : (⟨rd Fl.zero, []⟩ : Fl) = Fl.zero := by rw [rd_zero]; rfl
    have := h.other
    rcases ho.1 with e | e
    · rw [e] at this ⊢; rw [hg.1, this, hz]
    · rw [e] at this ⊢; rw [hg.2, this, hz]
theorem openI (h : At B w0 b g cap (dk0 l) w) (hi : LInv l M f L snap ps) (hM : M < 1099511627776) :
    Calls Tryz.prog 77 #[.pointer (some ⟨b, 0, none⟩), .int .i64 (f : Nat)] w fun e w' => ∃ lb v, e = .returned (.tuple #[.pointer (some ⟨lb, 0, none⟩), .string snap, v, .int .i64 0]) ∧ w.heap.size ≤ lb ∧ LAt B w0 b g cap lb (dk0 (opX l f)) L w' ∧ WS w' v ps ∧ Chg (fun k => k = b ∨ k = g) w w' := by
  have hok := hi.m.ok (by omega)
  have hf := hi.f1
  have hg := opX_get l f hf
  have hop := hi.op
  have ho := hi.oth
  obtain ⟨X, hX⟩ : ∃ X, X = rd (l.getD L.counts Fl.zero) := ⟨_, rfl⟩
  have hbX : bs X = recL L.gen (bs snap) ++ recsL 0 (ps.map bs) := by rw [hX, bs_rd, hi.bytes]
  have hXs : X.size = 19 + snap.size + lens (ps.map bs) := by rw [hX]; exact hi.size
  have hwh : whole (bs X) = some (L.gen, bs snap) := by
    rw [hbX]; exact whole_rec _ _ _ hi.gen1 (by have := hi.gen2; omega) (by rw [length_bs]; exact hi.sn)
  have hw0 : whole (bs ⟨#[]⟩) = none := by kernel_rfl
  have hpk : pkAt f (rd ((dk0 (opX l f)).l.getD f Fl.zero)) (rd ((dk0 (opX l f)).l.getD (f + 1) Fl.zero)) 2 = ⟨L.counts, L.gen, bs snap, X, 19 + (bs snap).length⟩ := by
    show pkAt f (rd ((opX l f).getD f Fl.zero)) (rd ((opX l f).getD (f + 1) Fl.zero)) 2 = _
    rw [hg.1, hg.2, rd_sync, rd_sync]
    have hoz := hi.other
    rcases hi.counts with e | e
    · have e2 : L.other = f + 1 := by have := ho.1; have := ho.2.1; omega
      rw [e2] at hoz
      rw [e] at hX
      rw [hoz, rd_zero, ← hX, e]
      show ((Pk.zero f).next f X).next (f + 1) ⟨#[]⟩ = _
      rw [Pk.next_more _ _ _ hwh (by show 0 < L.gen; exact hi.gen1), Pk.next_none _ _ _ hw0]
    · have e2 : L.other = f := by have := ho.1; have := ho.2.1; omega
      rw [e2] at hoz
      rw [e] at hX
      rw [hoz, rd_zero, ← hX, e]
      show ((Pk.zero f).next f ⟨#[]⟩).next (f + 1) X = _
      rw [Pk.next_none _ _ _ hw0, Pk.next_more _ _ _ hwh (by show 0 < L.gen; exact hi.gen1)]
  have hsc : scan ((bs X).drop (19 + (bs snap).length)) = ps.map bs := by
    rw [hbX, List.drop_left' (length_recL _ _)]
    refine scan_recs _ (by rw [List.length_map]; have := hi.few; omega) fun p hp => ?_
    obtain ⟨q, hq, rfl⟩ := List.mem_map.1 hp
    rw [length_bs]; exact hi.pl q hq
  have hms : (ps.map bs).map strOf = ps := by
    rw [List.map_map]
    conv => rhs; rw [← List.map_id ps]
    exact List.map_congr_left fun s _ => strOf_bs s
  have hk1 : MInv (l.set f ⟨rd (l.getD f Fl.zero), []⟩) M := hi.m.setL _ _ (by rw [rd_sync]; exact hi.m.size _ (by omega)) (Nat.zero_le _)
  have e2 : (dk0 (l.set f ⟨rd (l.getD f Fl.zero), []⟩)).syncX ((f : Int) + 1) = (dk0 (opX l f), 0) := by
    rw [show (f : Int) + 1 = ((f + 1 : Nat) : Int) by omega, syncX_L _ _ (by rw [List.length_set]; exact hf), getD_set_ne _ _ _ _ _ (by omega)]; rfl
  have hzo : (rd ((opX l f).getD L.other Fl.zero)).size = 0 := by rw [hop.other, rd_zero]; rfl
  have hfin := h.openOk hok f rfl hf (dk0 (l.set f ⟨rd (l.getD f Fl.zero), []⟩)) (dk0 (opX l f)) (dk0 (opX l f)) (dk0 (opX l f)) (syncX_L l f (by omega)) (hk1.ok (by omega)) e2 (hop.m.ok (by omega)) rfl (length_opX l f)
    ⟨L.counts, L.gen, bs snap, X, 19 + (bs snap).length⟩ hpk (by show 0 < L.gen; exact hi.gen1) (ps.map bs) hsc (fun hlt => absurd hlt (by show ¬ 19 + (bs snap).length + lens (ps.map bs) < X.size; rw [length_bs]; omega)) (fun _ => rfl) (hop.m.ok (by omega)) (length_opX l f)
    L.other (by rw [← hi.first]; exact ho.2.2.2) (fun hlt => absurd hlt (by show ¬ 0 < (rd ((opX l f).getD L.other Fl.zero)).size; omega)) (fun _ => rfl)
  refine hfin.mono fun e w' ⟨lb, v, q1, q2, q3, q4, q5⟩ => ⟨lb, v, ?_, q2, ?_, ?_, q5⟩
  · rw [q1]
    show Ending.returned (.tuple #[.pointer (some ⟨lb, 0, none⟩), .string (strOf (bs snap)), v, .int .i64 0]) = _
    rw [strOf_bs]
  · have eL : (⟨f, L.counts, L.gen, (ps.map bs).length, false⟩ : Lg) = L := by
      have h1 := hi.first
      have h2 := hi.live
      have h3 := hi.n
      obtain ⟨x1, x2, x3, x4, x5⟩ := L
      simp only at h1 h2 h3
      rw [List.length_map, h1, h2, h3]
    have q3' : LAt B w0 b g cap lb (dk0 (opX l f)) ⟨f, L.counts, L.gen, (ps.map bs).length, false⟩ w' := q3
    rw [eL] at q3'
    exact q3'
  · rw [hms] at q4; exact q4
theorem newIC (h : At B w0 b g cap (dk0 l) w) (hm : MInv l M) (hM : M < 1099511627775) (f : Nat) (hf : f + 1 < l.length) (z0 : l.getD f Fl.zero = Fl.zero) (z1 : l.getD (f + 1) Fl.zero = Fl.zero) (s : ByteArray) (hs : s.size ≤ 16384) :
    LInv (l.set f ⟨recS 1 s, []⟩) (M + 1) f ⟨f, f, 1, 0, false⟩ s [] ∧
    Calls Tryz.prog 48 #[.pointer (some ⟨b, 0, none⟩), .int .i64 (f : Nat), .string s] w fun e w' => ∃ lb, e = .returned (.tuple #[.pointer (some ⟨lb, 0, none⟩), .int .i64 0]) ∧ w.heap.size ≤ lb ∧ LAt B w0 b g cap lb (dk0 (l.set f ⟨recS 1 s, []⟩)) ⟨f, f, 1, 0, false⟩ w' ∧ Chg (fun k => k = b ∨ k = g) w w' := by
  have hfl : f < l.length := by omega
  have m2 : MInv (l.set f ⟨recS 1 s, []⟩) (M + 1) := (hm.mono (Nat.le_succ M)).setL _ _ (by rw [rd_safe, size_recS]; omega) (Nat.zero_le _)
  have m1 : MInv (l.set f ⟨⟨#[]⟩, [recS 1 s]⟩) (M + 1) := (hm.mono (Nat.le_succ M)).setL _ _ (by rw [rd_one, size_recS]; omega) (by show 1 ≤ M + 1; omega)
  refine ⟨⟨m2, by rw [List.length_set]; exact hf, rfl, .inl rfl, rfl, rfl, Nat.le_refl _, by show 1 ≤ M + 1; omega, ?_, ?_, hs, fun p hp => by cases hp⟩, ?_⟩
  · show rdL ((l.set f _).getD f Fl.zero) = _
    rw [getD_set_self _ _ _ _ hfl]
    show bs (recS 1 s) ++ cat [] = recL 1 (bs s) ++ []
    rw [bs_recS]; rfl
  · show (l.set f _).getD (2 * f + 1 - f) Fl.zero = Fl.zero
    rw [getD_set_ne _ _ _ _ _ (by omega), show 2 * f + 1 - f = f + 1 by omega]; exact z1
  · have e1 : (dk0 l).writeX (f : Nat) (recS 1 s) = (dk0 (l.set f ⟨⟨#[]⟩, [recS 1 s]⟩), 0) := by
      rw [writeX_L l f _ hfl (by rw [z0, rd_zero, size_recS]; show 0 + _ ≤ _; omega), z0]; rfl
    have e2 : (dk0 (l.set f ⟨⟨#[]⟩, [recS 1 s]⟩)).syncX (f : Nat) = (dk0 (l.set f ⟨recS 1 s, []⟩), 0) := by
      rw [syncX_L _ _ (by rw [List.length_set]; exact hfl), getD_set_self _ _ _ _ hfl, rd_one, List.set_set]
    exact h.newOkC (hm.ok (by omega)) f s rfl hf (by show (rd (l.getD f Fl.zero)).size = 0; rw [z0, rd_zero]; rfl) (by show (rd (l.getD (f + 1) Fl.zero)).size = 0; rw [z1, rd_zero]; rfl) hs (hm.manyL (by omega)) _ e1 (m1.ok (by omega)) _ e2
theorem newI (h : At B w0 b g cap (dk0 l) w) (hm : MInv l M) (hM : M < 1099511627775) (f : Nat) (hf : f + 1 < l.length) (z0 : l.getD f Fl.zero = Fl.zero) (z1 : l.getD (f + 1) Fl.zero = Fl.zero) (s : ByteArray) (hs : s.size ≤ 16384) :
    LInv (l.set f ⟨recS 1 s, []⟩) (M + 1) f ⟨f, f, 1, 0, false⟩ s [] ∧
    Calls Tryz.prog 48 #[.pointer (some ⟨b, 0, none⟩), .int .i64 (f : Nat), .string s] w fun e w' => ∃ lb, e = .returned (.tuple #[.pointer (some ⟨lb, 0, none⟩), .int .i64 0]) ∧ w.heap.size ≤ lb ∧ LAt B w0 b g cap lb (dk0 (l.set f ⟨recS 1 s, []⟩)) ⟨f, f, 1, 0, false⟩ w' :=
  ⟨(newIC h hm hM f hf z0 z1 s hs).1, (newIC h hm hM f hf z0 z1 s hs).2.mono fun e w' ⟨lb, h1, h2, h3, _⟩ => ⟨lb, h1, h2, h3⟩⟩
/-- The other files stay. -/
theorem appX_frame (l : List Fl) (L : Lg) (s : ByteArray) : (appX l L s).2.1.length = l.length ∧ ∀ j, j ≠ L.counts → (appX l L s).2.1.getD j Fl.zero = l.getD j Fl.zero := by
  unfold appX
  split
  · exact ⟨rfl, fun _ _ => rfl⟩
  · split
    · exact ⟨rfl, fun _ _ => rfl⟩
    · exact ⟨List.length_set, fun j hj => getD_set_ne _ _ _ _ _ (Ne.symm hj)⟩
theorem synX_frame (l : List Fl) (L : Lg) : (synX l L).2.1.length = l.length ∧ ∀ j, j ≠ L.counts → (synX l L).2.1.getD j Fl.zero = l.getD j Fl.zero :=
  ⟨List.length_set, fun j hj => getD_set_ne _ _ _ _ _ (Ne.symm hj)⟩
theorem cpX_frame (l : List Fl) (L : Lg) (s : ByteArray) : (cpX l L s).2.1.length = l.length ∧ ∀ j, j ≠ L.counts → j ≠ L.other → (cpX l L s).2.1.getD j Fl.zero = l.getD j Fl.zero := by
  unfold cpX
  split
  · exact ⟨rfl, fun _ _ _ => rfl⟩
  · exact ⟨by rw [List.length_set, List.length_set], fun j h1 h2 => by rw [getD_set_ne _ _ _ _ _ (Ne.symm h1), getD_set_ne _ _ _ _ _ (Ne.symm h2)]⟩
theorem opX_frame (l : List Fl) (f : Nat) : (opX l f).length = l.length ∧ ∀ j, j ≠ f → j ≠ f + 1 → (opX l f).getD j Fl.zero = l.getD j Fl.zero := by
  unfold opX
  exact ⟨by rw [List.length_set, List.length_set], fun j h1 h2 => by rw [getD_set_ne _ _ _ _ _ (Ne.symm h2), getD_set_ne _ _ _ _ _ (Ne.symm h1)]⟩
/-- Strings of the call's own stay in the log's calls. -/
theorem OwnsS.keepL {w w' : World} {b g cap lb base : Nat} {D : Dk} {L : Lg} {v : Value} {ss : List ByteArray} (h : OwnsS w base v ss) (hd : IsDisk w b g cap D) (hl : IsLog w lb b L) (hc : Chg (fun k => k = lb ∨ k = b ∨ k = g) w w') : OwnsS w' base v ss := by
  refine row_keep h hc fun k hk _ hS cur fr hh => ?_
  rcases hS with rfl | rfl | rfl
  · rw [hl.blk] at hh
    injection hh with hh
    injection hh with _ hT _
    exact absurd hT (by decide)
  · obtain ⟨cv, h1, _⟩ := hd.blk
    rw [h1] at hh
    injection hh with hh
    injection hh with _ hT _
    exact absurd hT (by decide)
  · obtain ⟨cv, h1, _⟩ := hd.fs.blk
    rw [h1] at hh
    injection hh with hh
    injection hh with _ hT _
    exact absurd hT (by decide)
end
end Go.Proofs.YtilpbjcbffbjeaaGreatDoor
