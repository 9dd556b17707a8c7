/- The walk of WalApart. -/
import Derived.Test.YtamaefnlicloaaaDoorWDo
import Derived.Test.YtamaefnlicloaaaDoorWOps
import Derived.Test.YtamaefnlicloaaaDoorWFixed
import Derived.Test.YtamaefnlicloaaaDoorRU
namespace Go.Proofs.YtamaefnlicloaaaDoor
set_option linter.unusedVariables false
set_option maxRecDepth 100000
open Go.RowKit
theorem strs_four (w : World) (b : Nat) (x : ByteArray) (h : ∀ i, i < 4 → w.cell? ⟨b, i, none⟩ = some (.string x)) : Strs w (.slice (some ⟨b, 0, none⟩) 4 4) [x, x, x, x] := by
  refine Strs.mk (ss := [x, x, x, x]) fun i hi => ⟨b, 0, rfl, ?_⟩
  rw [Nat.zero_add, h i hi]
  match i, (show i < 4 from hi) with
  | 0, _ => rfl
  | 1, _ => rfl
  | 2, _ => rfl
  | 3, _ => rfl
def z4 : List Fl := [Fl.zero, Fl.zero, Fl.zero, Fl.zero]
theorem z4_minv : MInv z4 0 := ⟨by decide, by decide, fun f hf => by
    match f, (show f < 4 from hf) with
    | 0, _ => exact of_decide_eq_true (by kernel_rfl)
    | 1, _ => exact of_decide_eq_true (by kernel_rfl)
    | 2, _ => exact of_decide_eq_true (by kernel_rfl)
    | 3, _ => exact of_decide_eq_true (by kernel_rfl), fun f hf => by
    match f, (show f < 4 from hf) with
    | 0, _ => exact Nat.le_refl _
    | 1, _ => exact Nat.le_refl _
    | 2, _ => exact Nat.le_refl _
    | 3, _ => exact Nat.le_refl _⟩
def caA : ByteArray := ⟨#[97]⟩
def caB : ByteArray := ⟨#[98]⟩
/-- What holds at the head of the loop. -/
structure Apt (B : Nat) (w0 : World) (b g cap b3 g3 cap3 lb1 lb2 lb3 M : Nat) (lA lG : List Fl) (LA LM : Lg) (w : World) : Prop where
  a : LAt B w0 b g cap lb1 (dk0 lA) LA w
  m : LAt B w0 b g cap lb2 (dk0 lA) LM w
  n : LAt B w0 b3 g3 cap3 lb3 (dk0 lG) LM w
  ia : ∃ sn ps, LInv lA M 0 LA sn ps
  im : ∃ sn ps, LInv lA M 2 LM sn ps
  iG : ∃ sn ps, LInv lG M 2 LM sn ps
  la : lA.length = 4
  lg : lG.length = 4
  e2 : lG.getD 2 Fl.zero = lA.getD 2 Fl.zero
  e3 : lG.getD 3 Fl.zero = lA.getD 3 Fl.zero
/-- The blocks are other ones. -/
structure Dis (b g b3 g3 lb1 lb2 lb3 : Nat) : Prop where
  d1 : lb3 ≠ lb1 ∧ lb3 ≠ b ∧ lb3 ≠ g ∧ lb3 ≠ lb2
  d2 : b3 ≠ lb1 ∧ b3 ≠ b ∧ b3 ≠ g ∧ b3 ≠ lb2
  d3 : g3 ≠ lb1 ∧ g3 ≠ b ∧ g3 ≠ g ∧ g3 ≠ lb2
  d4 : lb2 ≠ lb1
section
variable {B b g cap b3 g3 cap3 lb1 lb2 lb3 M : Nat} {w0 w w' : World} {lA lG lA' lG' : List Fl} {LA LM LA' LM' : Lg}
/-- The first log has done a call. -/
theorem Apt.one (h : Apt B w0 b g cap b3 g3 cap3 lb1 lb2 lb3 M lA lG LA LM w) (hd : Dis b g b3 g3 lb1 lb2 lb3) (kind : Int) (s : ByteArray)
    (h1 : LAt B w0 b g cap lb1 (dk0 (doX lA LA kind s).2.1) (doX lA LA kind s).2.2 w') (hc : Chg (fun k => k = lb1 ∨ k = b ∨ k = g) w w') : Apt B w0 b g cap b3 g3 cap3 lb1 lb2 lb3 (M + 1) (doX lA LA kind s).2.1 lG (doX lA LA kind s).2.2 LM w' := by
  obtain ⟨sn, ps, hi⟩ := h.ia
  obtain ⟨sn2, ps2, hi2⟩ := h.im
  obtain ⟨sn3, ps3, hi3⟩ := h.iG
  obtain ⟨sn', ps', hi'⟩ := hi.do kind s
  obtain ⟨f1, f2⟩ := doX_frame hi kind s
  exact ⟨h1, h.m.twin h1 hc hd.d4, h.n.apart h.a.muts hc (by have := hd.d1; omega) (by have := hd.d2; omega) (by have := hd.d3; omega) h1.below, ⟨sn', ps', hi'⟩,
    ⟨sn2, ps2, hi2.frame hi'.m (by omega) f1 (f2 2 (by decide) (by decide)) (f2 3 (by decide) (by decide))⟩, ⟨sn3, ps3, hi3.mono (by omega)⟩, f1.trans h.la, h.lg, h.e2.trans (f2 2 (by decide) (by decide)).symm, h.e3.trans (f2 3 (by decide) (by decide)).symm⟩
/-- The second log, and its twin on the other disk, have done a call. -/
theorem Apt.both {w1 : World} (h : Apt B w0 b g cap b3 g3 cap3 lb1 lb2 lb3 M lA lG LA LM w) (hd : Dis b g b3 g3 lb1 lb2 lb3) (kind : Int) (s : ByteArray)
    (h1 : LAt B w0 b g cap lb2 (dk0 (doX lA LM kind s).2.1) (doX lA LM kind s).2.2 w1) (hc : Chg (fun k => k = lb2 ∨ k = b ∨ k = g) w w1)
    (h2 : LAt B w0 b3 g3 cap3 lb3 (dk0 (doX lG LM kind s).2.1) (doX lG LM kind s).2.2 w') (hc2 : Chg (fun k => k = lb3 ∨ k = b3 ∨ k = g3) w1 w') :
    Apt B w0 b g cap b3 g3 cap3 lb1 lb2 lb3 (M + 1) (doX lA LM kind s).2.1 (doX lG LM kind s).2.1 LA (doX lA LM kind s).2.2 w' := by
  obtain ⟨sn, ps, hi⟩ := h.ia
  obtain ⟨sn2, ps2, hi2⟩ := h.im
  obtain ⟨sn3, ps3, hi3⟩ := h.iG
  obtain ⟨sn2', ps2', hi2'⟩ := hi2.do kind s
  obtain ⟨sn3', ps3', hi3'⟩ := hi3.do kind s
  obtain ⟨f1, f2⟩ := doX_frame hi2 kind s
  obtain ⟨f3, f4⟩ := doX_frame hi3 kind s
  obtain ⟨q1, q2, q3, q4⟩ := doX_same hi2 (h.lg.trans h.la.symm) h.e2 h.e3 kind s
  have a1 : LAt B w0 b g cap lb1 (dk0 (doX lA LM kind s).2.1) LA w1 := h.a.twin h1 hc (Ne.symm hd.d4)
  have n1 : LAt B w0 b3 g3 cap3 lb3 (dk0 lG) LM w1 := h.n.apart h.m.muts hc (by have := hd.d1; omega) (by have := hd.d2; omega) (by have := hd.d3; omega) h1.below
  have hmu : Muts (fun k => k = lb3 ∨ k = b3 ∨ k = g3) w1 := n1.muts
  refine ⟨a1.apart hmu hc2 (by have := hd.d1; have := hd.d2; have := hd.d3; omega) (by have := hd.d1; have := hd.d2; have := hd.d3; omega) (by have := hd.d1; have := hd.d2; have := hd.d3; omega) h2.below,
    h1.apart hmu hc2 (by have := hd.d1; have := hd.d2; have := hd.d3; omega) (by have := hd.d1; have := hd.d2; have := hd.d3; omega) (by have := hd.d1; have := hd.d2; have := hd.d3; omega) h2.below, ?_,
    ⟨sn, ps, hi.frame hi2'.m (by omega) f1 (f2 0 (by decide) (by decide)) (f2 1 (by decide) (by decide))⟩, ⟨sn2', ps2', hi2'⟩, ?_, f1.trans h.la, f3.trans h.lg, q3, q4⟩
  · rw [q2] at h2; exact h2
  · rw [q2] at hi3'; exact ⟨sn3', ps3', hi3'⟩
theorem Apt.grow (h : Apt B w0 b g cap b3 g3 cap3 lb1 lb2 lb3 M lA lG LA LM w) (hb : Below w.heap.size w w') : Apt B w0 b g cap b3 g3 cap3 lb1 lb2 lb3 M lA lG LA LM w' := ⟨h.a.grow hb, h.m.grow hb, h.n.grow hb, h.ia, h.im, h.iG, h.la, h.lg, h.e2, h.e3⟩
theorem Apt.mono (h : Apt B w0 b g cap b3 g3 cap3 lb1 lb2 lb3 M lA lG LA LM w) {M' : Nat} (hm : M ≤ M') : Apt B w0 b g cap b3 g3 cap3 lb1 lb2 lb3 M' lA lG LA LM w := by
  obtain ⟨sn, ps, hi⟩ := h.ia
  obtain ⟨sn2, ps2, hi2⟩ := h.im
  obtain ⟨sn3, ps3, hi3⟩ := h.iG
  exact ⟨h.a, h.m, h.n, ⟨sn, ps, hi.mono hm⟩, ⟨sn2, ps2, hi2.mono hm⟩, ⟨sn3, ps3, hi3.mono hm⟩, h.la, h.lg, h.e2, h.e3⟩
end
theorem after4 (l : List Fl) (css : List (List Int)) (h : l.length = 4) : (dk0 l).after css = [left (l.getD 0 Fl.zero) (css.getD 0 []), left (l.getD 1 Fl.zero) (css.getD 1 []), left (l.getD 2 Fl.zero) (css.getD 2 []), left (l.getD 3 Fl.zero) (css.getD 3 [])] := by
  unfold Dk.after
  rw [show (dk0 l).l = l from rfl, h]
  rfl
theorem WS.four {w : World} {v : Value} {x0 x1 x2 x3 : ByteArray} (h : WS w v [x0, x1, x2, x3]) : ∃ q o c, v = .slice (some ⟨q, o, none⟩) 4 c ∧ w.cell? ⟨q, o + 2, none⟩ = some (.string x2) ∧ w.cell? ⟨q, o + 3, none⟩ = some (.string x3) := by
  obtain ⟨p, c, e, hc⟩ := h.strs.form
  obtain ⟨g, off, hp, _⟩ := hc 0 (show 0 < 4 by decide)
  subst hp
  obtain ⟨g2, off2, hp2, h2⟩ := hc 2 (show 2 < 4 by decide)
  obtain ⟨g3, off3, hp3, h3⟩ := hc 3 (show 3 < 4 by decide)
  injection hp2 with hp2
  injection hp2 with hp2a hp2b
  injection hp3 with hp3
  injection hp3 with hp3a hp3b
  subst hp2a hp2b hp3a hp3b
  exact ⟨g, off, c, e, h2, h3⟩
set_option maxHeartbeats 12800000 in
theorem apartLLaw (va vb vc : Value) (OA OB : List Opv) (css : List (List Int)) (w : World) (hA : WOps w va OA) (hB : WOps w vb OB) (hC : Rss w vc css) (lA : OA.length ≤ 1048576) (lB : OB.length ≤ 1048576) (lC : ∀ i, (css.getD i []).length ≤ 1048576) :
    Calls Tryd.prog 5 #[va, vb, vc] w fun e w' => e = .returned (.bool true) ∧ Below w.heap.size w w' := by
  have HA0 := Lib.hid hA
  have HB0 := Lib.hid hB
  have HC0 := Lib.hid hC
  obtain ⟨pa, ca, rfl, _⟩ := hA
  obtain ⟨pb, cb, rfl, _⟩ := hB
  obtain ⟨pc, cc, rfl, _⟩ := hC
  obtain ⟨na, hna⟩ : ∃ n, n = OA.length := ⟨_, rfl⟩
  obtain ⟨nb, hnb⟩ : ∃ n, n = OB.length := ⟨_, rfl⟩
  obtain ⟨nc, hnc⟩ : ∃ n, n = css.length := ⟨_, rfl⟩
  rw [← hna] at HA0 lA
  rw [← hnb] at HB0 lB
  rw [← hnc] at HC0
  rw [← hna, ← hnb, ← hnc]
  have HNA := Lib.hid hna
  have HNB := Lib.hid hnb
  have HLC := Lib.hid lC
  clear hna hnb hnc lC
  go_enter Tryd.func5, Tryd.ntmps5
  go_wp2_with fail
  refine (newW _ [fe, fe, fe, fe] (strs_four _ w.heap.size fe (fun i hi => by match i, hi with | 0, _ => simp [fe] | 1, _ => simp [fe] | 2, _ => simp [fe] | 3, _ => simp [fe])) (by decide) (fun i hi => by match i, (show i < 4 from hi) with | 0, _ => decide | 1, _ => decide | 2, _ => decide | 3, _ => decide)).mono ?_
  rintro e w1 ⟨hb1, hh⟩
  rcases hh with ⟨hne, _⟩ | ⟨_, b, g, cap, rfl, hid, hbb, hgg⟩
  · exact absurd (show newErr [fe, fe, fe, fe] = 0 by decide) hne
  have hat : At w.heap.size w b g cap (dk0 z4) w1 := ⟨hid, ((Below.refl _ _).alloc (Nat.le_refl _) _).trans (hb1.mono (by simp)), by simp at hbb; omega, by simp at hgg; omega, Nat.le_refl _⟩
  have HA := Lib.hid hat
  clear hat hid hbb hgg hb1
  go_wp2_with fail
  refine (newW _ [fe, fe, fe, fe] (strs_four _ w1.heap.size fe (fun i hi => by match i, hi with | 0, _ => simp [fe] | 1, _ => simp [fe] | 2, _ => simp [fe] | 3, _ => simp [fe])) (by decide) (fun i hi => by match i, (show i < 4 from hi) with | 0, _ => decide | 1, _ => decide | 2, _ => decide | 3, _ => decide)).mono ?_
  rintro e w2 ⟨hb1, hh⟩
  rcases hh with ⟨hne, _⟩ | ⟨_, b3, g3, cap3, rfl, hid, hbb, hgg⟩
  · exact absurd (show newErr [fe, fe, fe, fe] = 0 by decide) hne
  have hb2 : Below w1.heap.size w1 w2 := ((Below.refl _ _).alloc (Nat.le_refl _) _).trans (hb1.mono (by simp))
  have hA2 := HA.out.grow hb2
  have hsz := HA.out.below.size
  have hlt1 := HA.out.disk.lt
  have hlt2 := HA.out.disk.fs.lt
  have hat3 : At w.heap.size w b3 g3 cap3 (dk0 z4) w2 := ⟨hid, hA2.below, by simp at hbb; omega, by simp at hgg; omega, Nat.le_refl _⟩
  have HX1 : Hid (b < b3 ∧ b < g3 ∧ g < b3 ∧ g < g3) := by simp at hbb hgg; exact ⟨by omega, by omega, by omega, by omega⟩
  have HG := Lib.hid hat3
  replace HA := Lib.hid hA2
  clear hat3 hid hbb hgg hb1 hb2 hA2 hsz hlt1 hlt2
  obtain ⟨hi1, hn1⟩ := newIC HA.out z4_minv (by omega) 0 (by decide) (by rfl) (by rfl) caA (by decide)
  have HN1 := Lib.hid hn1
  have HI1 := Lib.hid hi1
  clear hi1 hn1
  go_wp2_with fail
  refine HN1.out.mono ?_
  rintro e w3 ⟨lb1, rfl, hle1, hlat, hch⟩
  have HX2 : Hid (b < lb1 ∧ g < lb1 ∧ b3 < lb1 ∧ g3 < lb1) := by
    have := HA.out.disk.lt; have := HA.out.disk.fs.lt; have := HG.out.disk.lt; have := HG.out.disk.fs.lt
    exact ⟨by omega, by omega, by omega, by omega⟩
  have hg3 : At w.heap.size w b3 g3 cap3 (dk0 z4) w3 := ⟨HG.out.disk.keep hch (by have := HX1.out; omega) (by have := HX1.out; omega) HA.out.disk.muts, hlat.below, HG.out.bB, HG.out.gB, HG.out.le⟩
  replace HG := Lib.hid hg3
  have HL1 := Lib.hid hlat
  clear hlat hch hg3 HN1 HA hle1
  obtain ⟨hi2, hn2⟩ := newIC HL1.out.on HI1.out.m (by omega) 2 (by decide) (by rfl) (by rfl) caB (by decide)
  have HN2 := Lib.hid hn2
  have HI2 := Lib.hid hi2
  clear hi2 hn2
  go_wp2_with fail
  refine HN2.out.mono ?_
  rintro e w4 ⟨lb2, rfl, hle2, hlat, hch⟩
  have HX3 : Hid (b < lb2 ∧ g < lb2 ∧ b3 < lb2 ∧ g3 < lb2 ∧ lb1 < lb2) := by
    have := HL1.out.on.disk.lt; have := HL1.out.on.disk.fs.lt; have := HG.out.disk.lt; have := HG.out.disk.fs.lt; have := HL1.out.log.lt
    exact ⟨by omega, by omega, by omega, by omega, by omega⟩
  have hl1 : LAt w.heap.size w b g cap lb1 (dk0 ((z4.set 0 ⟨recS 1 caA, []⟩).set 2 ⟨recS 1 caB, []⟩)) ⟨0, 0, 1, 0, false⟩ w4 := ⟨hlat.on, HL1.out.log.keep hch (by have := HX2.out; omega), HL1.out.lB⟩
  have hg4 : At w.heap.size w b3 g3 cap3 (dk0 z4) w4 := ⟨HG.out.disk.keep hch (by have := HX1.out; omega) (by have := HX1.out; omega) HL1.out.on.disk.muts, hlat.below, HG.out.bB, HG.out.gB, HG.out.le⟩
  replace HG := Lib.hid hg4
  have HL2 := Lib.hid hlat
  replace HL1 := Lib.hid hl1
  clear hlat hch hg4 hl1 HN2 hle2
  obtain ⟨hi3, hn3⟩ := newIC HG.out z4_minv (by omega) 2 (by decide) (by rfl) (by rfl) caB (by decide)
  have HN3 := Lib.hid hn3
  have HI3 := Lib.hid hi3
  clear hi3 hn3
  go_wp2_with fail
  refine HN3.out.mono ?_
  rintro e w5 ⟨lb3, rfl, hle3, hlat, hch⟩
  have hX4 : lb1 < lb3 ∧ lb2 < lb3 := by
    have := HL1.out.log.lt; have := HL2.out.log.lt
    exact ⟨by omega, by omega⟩
  have HDIS : Hid (Dis b g b3 g3 lb1 lb2 lb3) := by
    have := HX1.out; have := HX2.out; have := HX3.out
    exact ⟨⟨by omega, by omega, by omega, by omega⟩, ⟨by omega, by omega, by omega, by omega⟩, ⟨by omega, by omega, by omega, by omega⟩, by omega⟩
  have hs : ∀ k, (k = b3 ∨ k = g3) → ¬ (k = lb1 ∨ k = lb2 ∨ k = b ∨ k = g) := by have := HX1.out; have := HX2.out; have := HX3.out; omega
  have HAP : Hid (Apt w.heap.size w b g cap b3 g3 cap3 lb1 lb2 lb3 2 ((z4.set 0 ⟨recS 1 caA, []⟩).set 2 ⟨recS 1 caB, []⟩) (z4.set 2 ⟨recS 1 caB, []⟩) ⟨0, 0, 1, 0, false⟩ ⟨2, 2, 1, 0, false⟩ w5) :=
    ⟨HL1.out.apart HG.out.disk.muts hch (fun h => hs _ h (.inl rfl)) (fun h => hs _ h (.inr (.inr (.inl rfl)))) (fun h => hs _ h (.inr (.inr (.inr rfl)))) hlat.below,
     HL2.out.apart HG.out.disk.muts hch (fun h => hs _ h (.inr (.inl rfl))) (fun h => hs _ h (.inr (.inr (.inl rfl)))) (fun h => hs _ h (.inr (.inr (.inr rfl)))) hlat.below,
     hlat, ⟨_, _, HI1.out.frame HI2.out.m (by omega) (by rfl) (by rfl) (by rfl)⟩, ⟨_, _, HI2.out⟩, ⟨_, _, HI3.out.mono (by omega)⟩, by rfl, by rfl, by rfl, by rfl⟩
  clear hlat hch hX4 hs HN3 HL1 HL2 HG HI1 HI2 HI3 HX1 HX2 HX3 hle3
  go_wp2_with fail
  go_loopw [17] (fun v wr => ∃ (i : Nat) (lA lG : List Fl) (LA LM : Lg), v = .int .i64 (i : Nat) ∧ (i ≤ na ∨ i ≤ nb) ∧ Apt w.heap.size w b g cap b3 g3 cap3 lb1 lb2 lb3 (2 * i + 2) lA lG LA LM wr) (fun v _ => ((na : Int) + nb + 1 - intOf v).toNat)
  case atStart => exact ⟨0, _, _, _, _, rfl, .inl (Nat.zero_le _), HAP.out⟩
  case round =>
    obtain ⟨i, lA', lG', LA, LM, rfl, him, hap⟩ := hrel
    have HPr := Lib.hid hap
    have hi0 : (0 : Int) ≤ (i : Int) := by omega
    have hib : (i : Int) ≤ 1048576 := by omega
    clear hap HAP
    by_cases hlta : i < na
    · obtain ⟨xb, xo, hxp, hxo⟩ := HA0.out.at (p := pa) rfl (i := i) (by rw [← HNA.out]; exact hlta)
      subst hxp
      obtain ⟨x, hx⟩ : ∃ o, o = OA.getD i Opv.zero := ⟨_, rfl⟩
      rw [← hx] at hxo
      obtain ⟨x0, x1, x2, x3, xv, x4, xr⟩ := hxo
      obtain ⟨xsp, xsc, rfl, _⟩ := xr
      obtain ⟨xon, hxon⟩ : ∃ z, z = x.on := ⟨_, rfl⟩
      obtain ⟨xkd, hxkd⟩ : ∃ z, z = x.kind := ⟨_, rfl⟩
      obtain ⟨xn, hxn⟩ : ∃ z, z = x.n := ⟨_, rfl⟩
      obtain ⟨xs, hxs⟩ : ∃ z, z = x.s := ⟨_, rfl⟩
      obtain ⟨xl, hxl⟩ : ∃ z, z = x.ch.length := ⟨_, rfl⟩
      rw [← hxon] at x0
      rw [← hxkd] at x1
      rw [← hxn] at x2
      rw [← hxs] at x3
      rw [← hxl] at x4
      have HOx : Hid (∀ u, Below w.heap.size w u → ((fun u => u.cell? ⟨xb, xo + i * 5, none⟩ = some (.int .i64 xon) ∧ u.cell? ⟨xb, xo + i * 5 + 1, none⟩ = some (.int .i64 xkd) ∧ u.cell? ⟨xb, xo + i * 5 + 2, none⟩ = some (.int .i64 xn) ∧ u.cell? ⟨xb, xo + i * 5 + 3, none⟩ = some (.string xs) ∧ u.cell? ⟨xb, xo + i * 5 + 4, none⟩ = some (.slice xsp xl xsc)) u)) := fun u hu => ⟨(hu.cell (block_lt_of_cell x0)).trans x0, (hu.cell (block_lt_of_cell x1)).trans x1, (hu.cell (block_lt_of_cell x2)).trans x2, (hu.cell (block_lt_of_cell x3)).trans x3, (hu.cell (block_lt_of_cell x4)).trans x4⟩
      clear x0 x1 x2 x3 x4 hx hxon hxkd hxn hxs hxl
      obtain ⟨sna, psa, hia⟩ := HPr.out.ia
      have HCA := Lib.hid (doW HPr.out.a hia (by omega) xon xkd xn xs (.slice xsp xl xsc) ⟨_, _, _, rfl⟩)
      clear hia
      obtain ⟨x0, x1, x2, x3, x4⟩ := HOx.out wr HPr.out.a.below
      have hia1 : (i : Int) < (na : Int) := by omega
      go_wp2_with fail
      refine HCA.out.mono ?_
      rintro e w1 ⟨rfl, h1, h2⟩
      have HP1 := Lib.hid (HPr.out.one HDIS.out xkd xs h1 h2)
      clear h1 h2 x0 x1 x2 x3 x4 HCA HOx
      by_cases hltb : i < nb
      · have hib2 : (i : Int) < (nb : Int) := by omega
        obtain ⟨yb, yo, hyp, hyo⟩ := HB0.out.at (p := pb) rfl (i := i) (by rw [← HNB.out]; exact hltb)
        subst hyp
        obtain ⟨y, hy⟩ : ∃ o, o = OB.getD i Opv.zero := ⟨_, rfl⟩
        rw [← hy] at hyo
        obtain ⟨y0, y1, y2, y3, yv, y4, yr⟩ := hyo
        obtain ⟨ysp, ysc, rfl, _⟩ := yr
        obtain ⟨yon, hyon⟩ : ∃ z, z = y.on := ⟨_, rfl⟩
        obtain ⟨ykd, hykd⟩ : ∃ z, z = y.kind := ⟨_, rfl⟩
        obtain ⟨yn, hyn⟩ : ∃ z, z = y.n := ⟨_, rfl⟩
        obtain ⟨ys, hys⟩ : ∃ z, z = y.s := ⟨_, rfl⟩
        obtain ⟨yl, hyl⟩ : ∃ z, z = y.ch.length := ⟨_, rfl⟩
        rw [← hyon] at y0
        rw [← hykd] at y1
        rw [← hyn] at y2
        rw [← hys] at y3
        rw [← hyl] at y4
        have HOy : Hid (∀ u, Below w.heap.size w u → ((fun u => u.cell? ⟨yb, yo + i * 5, none⟩ = some (.int .i64 yon) ∧ u.cell? ⟨yb, yo + i * 5 + 1, none⟩ = some (.int .i64 ykd) ∧ u.cell? ⟨yb, yo + i * 5 + 2, none⟩ = some (.int .i64 yn) ∧ u.cell? ⟨yb, yo + i * 5 + 3, none⟩ = some (.string ys) ∧ u.cell? ⟨yb, yo + i * 5 + 4, none⟩ = some (.slice ysp yl ysc)) u)) := fun u hu => ⟨(hu.cell (block_lt_of_cell y0)).trans y0, (hu.cell (block_lt_of_cell y1)).trans y1, (hu.cell (block_lt_of_cell y2)).trans y2, (hu.cell (block_lt_of_cell y3)).trans y3, (hu.cell (block_lt_of_cell y4)).trans y4⟩
        clear y0 y1 y2 y3 y4 hy hyon hykd hyn hys hyl
        go_wp2_with fail
        refine wp_region_U 18 (fun u => u.cell? ⟨yb, yo + i * 5, none⟩ = some (.int .i64 yon) ∧ u.cell? ⟨yb, yo + i * 5 + 1, none⟩ = some (.int .i64 ykd) ∧ u.cell? ⟨yb, yo + i * 5 + 2, none⟩ = some (.int .i64 yn) ∧ u.cell? ⟨yb, yo + i * 5 + 3, none⟩ = some (.string ys) ∧ u.cell? ⟨yb, yo + i * 5 + 4, none⟩ = some (.slice ysp yl ysc)) (by kernel_rfl) ?_
        change wpAnyU _ _ _ _ _ _ 19 (Array.replicate 19 false) _ _
        obtain ⟨w2, hw2⟩ : ∃ w2, w2 = w1.drew := ⟨_, rfl⟩
        rw [← hw2]
        have HP2 := Lib.hid (HP1.out.grow (show Below w1.heap.size w1 w2 by rw [hw2]; exact (Below.refl _ _).drew))
        clear hw2
        have HS : Hid ((fun u => u.cell? ⟨yb, yo + i * 5, none⟩ = some (.int .i64 yon) ∧ u.cell? ⟨yb, yo + i * 5 + 1, none⟩ = some (.int .i64 ykd) ∧ u.cell? ⟨yb, yo + i * 5 + 2, none⟩ = some (.int .i64 yn) ∧ u.cell? ⟨yb, yo + i * 5 + 3, none⟩ = some (.string ys) ∧ u.cell? ⟨yb, yo + i * 5 + 4, none⟩ = some (.slice ysp yl ysc)) w2) := HOy.out w2 HP2.out.a.below
        obtain ⟨snm, psm, him2⟩ := HP2.out.im
        obtain ⟨snG, psG, hiG2⟩ := HP2.out.iG
        obtain ⟨q1, q2, q3, q4⟩ := doX_same him2 (HP2.out.lg.trans HP2.out.la.symm) HP2.out.e2 HP2.out.e3 ykd ys
        obtain ⟨r, hr⟩ : ∃ r, r = (doX (doX lA' LA xkd xs).2.1 LM ykd ys).1 := ⟨_, rfl⟩
        have HC1 := Lib.hid (doW HP2.out.m him2 (by omega) yon ykd yn ys (.slice ysp yl ysc) ⟨_, _, _, rfl⟩)
        rw [← hr] at HC1 q1
        have HC2 : Hid (∀ u, LAt w.heap.size w b3 g3 cap3 lb3 (dk0 lG') LM u → Calls Tryd.prog 21 #[.pointer (some ⟨lb3, 0, none⟩), .agg #[.int .i64 yon, .int .i64 ykd, .int .i64 yn, .string ys, .slice ysp yl ysc]] u fun e w' => e = .returned (.int .i64 r) ∧ LAt w.heap.size w b3 g3 cap3 lb3 (dk0 (doX lG' LM ykd ys).2.1) (doX lG' LM ykd ys).2.2 w' ∧ Chg (fun k => k = lb3 ∨ k = b3 ∨ k = g3) u w') := fun u hu => by
          have := doW hu hiG2 (by omega) yon ykd yn ys (.slice ysp yl ysc) ⟨_, _, _, rfl⟩
          rw [q1] at this
          exact this
        clear q1 q2 q3 q4 hr him2 hiG2
        refine takeU 0 (v := ?_) rfl (by kernel_rfl) (by kernel_rfl) (fun _ _ _ h => h) rfl (fun u hu => ?_) HS.out ?_
        rotate_left
        · obtain ⟨q0, q1, q2, q3, q4⟩ := hu; go_simp <;> with_reducible rfl
        simp only [Act.put, List.setIfInBounds_toArray, List.set_cons_zero, List.set_cons_succ]
        refine takeU 1 (v := ?_) rfl (by kernel_rfl) (by kernel_rfl) (fun _ _ _ h => h) rfl (fun u hu => ?_) HS.out ?_
        rotate_left
        · obtain ⟨q0, q1, q2, q3, q4⟩ := hu; go_simp <;> with_reducible rfl
        simp only [Act.put, List.setIfInBounds_toArray, List.set_cons_zero, List.set_cons_succ]
        refine takeU 2 (v := ?_) rfl (by kernel_rfl) (by kernel_rfl) (fun _ _ _ h => h) rfl (fun u hu => ?_) HS.out ?_
        rotate_left
        · obtain ⟨q0, q1, q2, q3, q4⟩ := hu; go_simp <;> with_reducible rfl
        simp only [Act.put, List.setIfInBounds_toArray, List.set_cons_zero, List.set_cons_succ]
        refine takeU 3 (v := ?_) rfl (by kernel_rfl) (by kernel_rfl) (fun _ _ _ h => h) rfl (fun u hu => ?_) HS.out ?_
        rotate_left
        · obtain ⟨q0, q1, q2, q3, q4⟩ := hu; go_simp <;> with_reducible rfl
        simp only [Act.put, List.setIfInBounds_toArray, List.set_cons_zero, List.set_cons_succ]
        refine takeU 4 (v := ?_) rfl (by kernel_rfl) (by kernel_rfl) (fun _ _ _ h => h) rfl (fun u hu => ?_) HS.out ?_
        rotate_left
        · obtain ⟨q0, q1, q2, q3, q4⟩ := hu; go_simp <;> with_reducible rfl
        simp only [Act.put, List.setIfInBounds_toArray, List.set_cons_zero, List.set_cons_succ]
        refine takeU 5 (v := ?_) rfl (by kernel_rfl) (by kernel_rfl) (fun _ _ _ h => h) rfl (fun u hu => ?_) HS.out ?_
        rotate_left
        · obtain ⟨q0, q1, q2, q3, q4⟩ := hu; go_simp <;> with_reducible rfl
        simp only [Act.put, List.setIfInBounds_toArray, List.set_cons_zero, List.set_cons_succ]
        refine takeU 6 (v := ?_) rfl (by kernel_rfl) (by kernel_rfl) (fun _ _ _ h => h) rfl (fun u hu => ?_) HS.out ?_
        rotate_left
        · obtain ⟨q0, q1, q2, q3, q4⟩ := hu; go_simp <;> with_reducible rfl
        simp only [Act.put, List.setIfInBounds_toArray, List.set_cons_zero, List.set_cons_succ]
        refine takeU 7 (v := ?_) rfl (by kernel_rfl) (by kernel_rfl) (fun _ _ _ h => h) rfl (fun u hu => ?_) HS.out ?_
        rotate_left
        · obtain ⟨q0, q1, q2, q3, q4⟩ := hu; go_simp <;> with_reducible rfl
        simp only [Act.put, List.setIfInBounds_toArray, List.set_cons_zero, List.set_cons_succ]
        refine takeU 8 (v := ?_) rfl (by kernel_rfl) (by kernel_rfl) (fun _ _ _ h => h) rfl (fun u hu => ?_) HS.out ?_
        rotate_left
        · obtain ⟨q0, q1, q2, q3, q4⟩ := hu; go_simp <;> with_reducible rfl
        simp only [Act.put, List.setIfInBounds_toArray, List.set_cons_zero, List.set_cons_succ]
        refine takeU 9 (v := ?_) rfl (by kernel_rfl) (by kernel_rfl) (fun _ _ _ h => h) rfl (fun u hu => ?_) HS.out ?_
        rotate_left
        · obtain ⟨q0, q1, q2, q3, q4⟩ := hu; go_simp <;> with_reducible rfl
        simp only [Act.put, List.setIfInBounds_toArray, List.set_cons_zero, List.set_cons_succ]
        refine takeU 11 (v := ?_) rfl (by kernel_rfl) (by kernel_rfl) (fun _ _ _ h => h) rfl (fun u hu => ?_) HS.out ?_
        rotate_left
        · obtain ⟨q0, q1, q2, q3, q4⟩ := hu; go_simp <;> with_reducible rfl
        simp only [Act.put, List.setIfInBounds_toArray, List.set_cons_zero, List.set_cons_succ]
        refine takeU 12 (v := ?_) rfl (by kernel_rfl) (by kernel_rfl) (fun _ _ _ h => h) rfl (fun u hu => ?_) HS.out ?_
        rotate_left
        · obtain ⟨q0, q1, q2, q3, q4⟩ := hu; go_simp <;> with_reducible rfl
        simp only [Act.put, List.setIfInBounds_toArray, List.set_cons_zero, List.set_cons_succ]
        refine takeU 13 (v := ?_) rfl (by kernel_rfl) (by kernel_rfl) (fun _ _ _ h => h) rfl (fun u hu => ?_) HS.out ?_
        rotate_left
        · obtain ⟨q0, q1, q2, q3, q4⟩ := hu; go_simp <;> with_reducible rfl
        simp only [Act.put, List.setIfInBounds_toArray, List.set_cons_zero, List.set_cons_succ]
        refine takeU 14 (v := ?_) rfl (by kernel_rfl) (by kernel_rfl) (fun _ _ _ h => h) rfl (fun u hu => ?_) HS.out ?_
        rotate_left
        · obtain ⟨q0, q1, q2, q3, q4⟩ := hu; go_simp <;> with_reducible rfl
        simp only [Act.put, List.setIfInBounds_toArray, List.set_cons_zero, List.set_cons_succ]
        refine takeU 15 (v := ?_) rfl (by kernel_rfl) (by kernel_rfl) (fun _ _ _ h => h) rfl (fun u hu => ?_) HS.out ?_
        rotate_left
        · obtain ⟨q0, q1, q2, q3, q4⟩ := hu; go_simp <;> with_reducible rfl
        simp only [Act.put, List.setIfInBounds_toArray, List.set_cons_zero, List.set_cons_succ]
        refine oneU 10 (by kernel_rfl) ?_
        refine callU 10 rfl (by kernel_rfl) rfl 21 _ _ rfl #[.pointer (some ⟨lb2, 0, none⟩), .agg #[.int .i64 yon, .int .i64 ykd, .int .i64 yn, .string ys, .slice ysp yl ysc]] (by simp [Act.eval]) (enters_of Tryd.func21 (by kernel_rfl) rfl) (fun v w' => v = .int .i64 r ∧ Hid (LAt w.heap.size w b g cap lb2 (dk0 (doX (doX lA' LA xkd xs).2.1 LM ykd ys).2.1) (doX (doX lA' LA xkd xs).2.1 LM ykd ys).2.2 w' ∧ Chg (fun k => k = lb2 ∨ k = b ∨ k = g) w2 w')) (HC1.out.mono fun e w' ⟨h1, h2, h3⟩ => ⟨_, h1, rfl, h2, h3⟩) ?_
        rintro v w3 ⟨rfl, hK⟩
        have HK3 := hK
        have HN3 := Lib.hid (HP2.out.n.apart HP2.out.m.muts hK.out.2 (by have := HDIS.out.d1; omega) (by have := HDIS.out.d2; omega) (by have := HDIS.out.d3; omega) hK.out.1.below)
        clear hK
        refine ⟨HOy.out w3 HN3.out.below, ?_⟩
        simp only [Act.put, List.setIfInBounds_toArray, List.set_cons_zero, List.set_cons_succ]
        refine oneU 16 (by kernel_rfl) ?_
        refine callU 16 rfl (by kernel_rfl) rfl 21 _ _ rfl #[.pointer (some ⟨lb3, 0, none⟩), .agg #[.int .i64 yon, .int .i64 ykd, .int .i64 yn, .string ys, .slice ysp yl ysc]] (by simp [Act.eval]) (enters_of Tryd.func21 (by kernel_rfl) rfl) (fun v w' => v = .int .i64 r ∧ Hid (LAt w.heap.size w b3 g3 cap3 lb3 (dk0 (doX lG' LM ykd ys).2.1) (doX lG' LM ykd ys).2.2 w' ∧ Chg (fun k => k = lb3 ∨ k = b3 ∨ k = g3) w3 w')) ((HC2.out w3 HN3.out).mono fun e w' ⟨h1, h2, h3⟩ => ⟨_, h1, rfl, h2, h3⟩) ?_
        rintro v w4 ⟨rfl, hK⟩
        have HP4 := Lib.hid (HP2.out.both HDIS.out ykd ys HK3.out.1 HK3.out.2 hK.out.1 hK.out.2)
        clear hK
        refine ⟨HOy.out w4 HP4.out.a.below, ?_⟩
        simp only [Act.put, List.setIfInBounds_toArray, List.set_cons_zero, List.set_cons_succ]
        refine takeU 17 (v := ?_) rfl (by kernel_rfl) (by kernel_rfl) (fun _ _ _ h => h) rfl (fun u hu => ?_) (HOy.out w4 HP4.out.a.below) ?_
        rotate_left
        · skip; go_simp <;> with_reducible rfl
        simp only [Act.put, List.setIfInBounds_toArray, List.set_cons_zero, List.set_cons_succ]
        refine oneU 18 (by kernel_rfl) ?_
        refine endU (v := ?_) 18 rfl (by kernel_rfl) (by kernel_rfl) rfl ?_ ?_
        rotate_left
        · go_simp <;> with_reducible rfl
        simp only [Act.put, List.setIfInBounds_toArray, List.set_cons_zero, List.set_cons_succ]
        clear HS HC1 HC2 HK3 HN3 HP2
        go_wp2_with fail
        exact ⟨⟨i + 1, _, _, _, _, rfl, .inr (by omega), HP4.out.mono (by omega)⟩, by simp only [intOf]; omega⟩
      · have hib2 : ¬ (i : Int) < (nb : Int) := by omega
        have cb2 : decide ((i : Int) < (nb : Int)) = false := decide_eq_false hib2
        go_wp2_with fail
        refine wp_region_fam (by kernel_rfl) (by kernel_rfl) Grow.val (Grow.start w1) ?_
        repeat go_big_quiet_step (fail)
        refine wpQuiet_nil ?_
        intro tt
        have HP4 := Lib.hid (HP1.out.grow tt.below)
        go_wp2_with fail
        exact ⟨⟨i + 1, _, _, _, _, rfl, .inl (by omega), HP4.out.mono (by omega)⟩, by simp only [intOf]; omega⟩
    · have hia1 : ¬ (i : Int) < (na : Int) := by omega
      have ca2 : decide ((i : Int) < (na : Int)) = false := decide_eq_false hia1
      by_cases hltb : i < nb
      · have hib2 : (i : Int) < (nb : Int) := by omega
        obtain ⟨yb, yo, hyp, hyo⟩ := HB0.out.at (p := pb) rfl (i := i) (by rw [← HNB.out]; exact hltb)
        subst hyp
        obtain ⟨y, hy⟩ : ∃ o, o = OB.getD i Opv.zero := ⟨_, rfl⟩
        rw [← hy] at hyo
        obtain ⟨y0, y1, y2, y3, yv, y4, yr⟩ := hyo
        obtain ⟨ysp, ysc, rfl, _⟩ := yr
        obtain ⟨yon, hyon⟩ : ∃ z, z = y.on := ⟨_, rfl⟩
        obtain ⟨ykd, hykd⟩ : ∃ z, z = y.kind := ⟨_, rfl⟩
        obtain ⟨yn, hyn⟩ : ∃ z, z = y.n := ⟨_, rfl⟩
        obtain ⟨ys, hys⟩ : ∃ z, z = y.s := ⟨_, rfl⟩
        obtain ⟨yl, hyl⟩ : ∃ z, z = y.ch.length := ⟨_, rfl⟩
        rw [← hyon] at y0
        rw [← hykd] at y1
        rw [← hyn] at y2
        rw [← hys] at y3
        rw [← hyl] at y4
        have HOy : Hid (∀ u, Below w.heap.size w u → ((fun u => u.cell? ⟨yb, yo + i * 5, none⟩ = some (.int .i64 yon) ∧ u.cell? ⟨yb, yo + i * 5 + 1, none⟩ = some (.int .i64 ykd) ∧ u.cell? ⟨yb, yo + i * 5 + 2, none⟩ = some (.int .i64 yn) ∧ u.cell? ⟨yb, yo + i * 5 + 3, none⟩ = some (.string ys) ∧ u.cell? ⟨yb, yo + i * 5 + 4, none⟩ = some (.slice ysp yl ysc)) u)) := fun u hu => ⟨(hu.cell (block_lt_of_cell y0)).trans y0, (hu.cell (block_lt_of_cell y1)).trans y1, (hu.cell (block_lt_of_cell y2)).trans y2, (hu.cell (block_lt_of_cell y3)).trans y3, (hu.cell (block_lt_of_cell y4)).trans y4⟩
        clear y0 y1 y2 y3 y4 hy hyon hykd hyn hys hyl
        go_wp2_with fail
        refine wp_region_U 18 (fun u => u.cell? ⟨yb, yo + i * 5, none⟩ = some (.int .i64 yon) ∧ u.cell? ⟨yb, yo + i * 5 + 1, none⟩ = some (.int .i64 ykd) ∧ u.cell? ⟨yb, yo + i * 5 + 2, none⟩ = some (.int .i64 yn) ∧ u.cell? ⟨yb, yo + i * 5 + 3, none⟩ = some (.string ys) ∧ u.cell? ⟨yb, yo + i * 5 + 4, none⟩ = some (.slice ysp yl ysc)) (by kernel_rfl) ?_
        change wpAnyU _ _ _ _ _ _ 19 (Array.replicate 19 false) _ _
        obtain ⟨w2, hw2⟩ : ∃ w2, w2 = wr.drew := ⟨_, rfl⟩
        rw [← hw2]
        have HP2 := Lib.hid (HPr.out.grow (show Below wr.heap.size wr w2 by rw [hw2]; exact (Below.refl _ _).drew))
        clear hw2
        have HS : Hid ((fun u => u.cell? ⟨yb, yo + i * 5, none⟩ = some (.int .i64 yon) ∧ u.cell? ⟨yb, yo + i * 5 + 1, none⟩ = some (.int .i64 ykd) ∧ u.cell? ⟨yb, yo + i * 5 + 2, none⟩ = some (.int .i64 yn) ∧ u.cell? ⟨yb, yo + i * 5 + 3, none⟩ = some (.string ys) ∧ u.cell? ⟨yb, yo + i * 5 + 4, none⟩ = some (.slice ysp yl ysc)) w2) := HOy.out w2 HP2.out.a.below
        obtain ⟨snm, psm, him2⟩ := HP2.out.im
        obtain ⟨snG, psG, hiG2⟩ := HP2.out.iG
        obtain ⟨q1, q2, q3, q4⟩ := doX_same him2 (HP2.out.lg.trans HP2.out.la.symm) HP2.out.e2 HP2.out.e3 ykd ys
        obtain ⟨r, hr⟩ : ∃ r, r = (doX lA' LM ykd ys).1 := ⟨_, rfl⟩
        have HC1 := Lib.hid (doW HP2.out.m him2 (by omega) yon ykd yn ys (.slice ysp yl ysc) ⟨_, _, _, rfl⟩)
        rw [← hr] at HC1 q1
        have HC2 : Hid (∀ u, LAt w.heap.size w b3 g3 cap3 lb3 (dk0 lG') LM u → Calls Tryd.prog 21 #[.pointer (some ⟨lb3, 0, none⟩), .agg #[.int .i64 yon, .int .i64 ykd, .int .i64 yn, .string ys, .slice ysp yl ysc]] u fun e w' => e = .returned (.int .i64 r) ∧ LAt w.heap.size w b3 g3 cap3 lb3 (dk0 (doX lG' LM ykd ys).2.1) (doX lG' LM ykd ys).2.2 w' ∧ Chg (fun k => k = lb3 ∨ k = b3 ∨ k = g3) u w') := fun u hu => by
          have := doW hu hiG2 (by omega) yon ykd yn ys (.slice ysp yl ysc) ⟨_, _, _, rfl⟩
          rw [q1] at this
          exact this
        clear q1 q2 q3 q4 hr him2 hiG2
        refine takeU 0 (v := ?_) rfl (by kernel_rfl) (by kernel_rfl) (fun _ _ _ h => h) rfl (fun u hu => ?_) HS.out ?_
        rotate_left
        · obtain ⟨q0, q1, q2, q3, q4⟩ := hu; go_simp <;> with_reducible rfl
        simp only [Act.put, List.setIfInBounds_toArray, List.set_cons_zero, List.set_cons_succ]
        refine takeU 1 (v := ?_) rfl (by kernel_rfl) (by kernel_rfl) (fun _ _ _ h => h) rfl (fun u hu => ?_) HS.out ?_
        rotate_left
        · obtain ⟨q0, q1, q2, q3, q4⟩ := hu; go_simp <;> with_reducible rfl
        simp only [Act.put, List.setIfInBounds_toArray, List.set_cons_zero, List.set_cons_succ]
        refine takeU 2 (v := ?_) rfl (by kernel_rfl) (by kernel_rfl) (fun _ _ _ h => h) rfl (fun u hu => ?_) HS.out ?_
        rotate_left
        · obtain ⟨q0, q1, q2, q3, q4⟩ := hu; go_simp <;> with_reducible rfl
        simp only [Act.put, List.setIfInBounds_toArray, List.set_cons_zero, List.set_cons_succ]
        refine takeU 3 (v := ?_) rfl (by kernel_rfl) (by kernel_rfl) (fun _ _ _ h => h) rfl (fun u hu => ?_) HS.out ?_
        rotate_left
        · obtain ⟨q0, q1, q2, q3, q4⟩ := hu; go_simp <;> with_reducible rfl
        simp only [Act.put, List.setIfInBounds_toArray, List.set_cons_zero, List.set_cons_succ]
        refine takeU 4 (v := ?_) rfl (by kernel_rfl) (by kernel_rfl) (fun _ _ _ h => h) rfl (fun u hu => ?_) HS.out ?_
        rotate_left
        · obtain ⟨q0, q1, q2, q3, q4⟩ := hu; go_simp <;> with_reducible rfl
        simp only [Act.put, List.setIfInBounds_toArray, List.set_cons_zero, List.set_cons_succ]
        refine takeU 5 (v := ?_) rfl (by kernel_rfl) (by kernel_rfl) (fun _ _ _ h => h) rfl (fun u hu => ?_) HS.out ?_
        rotate_left
        · obtain ⟨q0, q1, q2, q3, q4⟩ := hu; go_simp <;> with_reducible rfl
        simp only [Act.put, List.setIfInBounds_toArray, List.set_cons_zero, List.set_cons_succ]
        refine takeU 6 (v := ?_) rfl (by kernel_rfl) (by kernel_rfl) (fun _ _ _ h => h) rfl (fun u hu => ?_) HS.out ?_
        rotate_left
        · obtain ⟨q0, q1, q2, q3, q4⟩ := hu; go_simp <;> with_reducible rfl
        simp only [Act.put, List.setIfInBounds_toArray, List.set_cons_zero, List.set_cons_succ]
        refine takeU 7 (v := ?_) rfl (by kernel_rfl) (by kernel_rfl) (fun _ _ _ h => h) rfl (fun u hu => ?_) HS.out ?_
        rotate_left
        · obtain ⟨q0, q1, q2, q3, q4⟩ := hu; go_simp <;> with_reducible rfl
        simp only [Act.put, List.setIfInBounds_toArray, List.set_cons_zero, List.set_cons_succ]
        refine takeU 8 (v := ?_) rfl (by kernel_rfl) (by kernel_rfl) (fun _ _ _ h => h) rfl (fun u hu => ?_) HS.out ?_
        rotate_left
        · obtain ⟨q0, q1, q2, q3, q4⟩ := hu; go_simp <;> with_reducible rfl
        simp only [Act.put, List.setIfInBounds_toArray, List.set_cons_zero, List.set_cons_succ]
        refine takeU 9 (v := ?_) rfl (by kernel_rfl) (by kernel_rfl) (fun _ _ _ h => h) rfl (fun u hu => ?_) HS.out ?_
        rotate_left
        · obtain ⟨q0, q1, q2, q3, q4⟩ := hu; go_simp <;> with_reducible rfl
        simp only [Act.put, List.setIfInBounds_toArray, List.set_cons_zero, List.set_cons_succ]
        refine takeU 11 (v := ?_) rfl (by kernel_rfl) (by kernel_rfl) (fun _ _ _ h => h) rfl (fun u hu => ?_) HS.out ?_
        rotate_left
        · obtain ⟨q0, q1, q2, q3, q4⟩ := hu; go_simp <;> with_reducible rfl
        simp only [Act.put, List.setIfInBounds_toArray, List.set_cons_zero, List.set_cons_succ]
        refine takeU 12 (v := ?_) rfl (by kernel_rfl) (by kernel_rfl) (fun _ _ _ h => h) rfl (fun u hu => ?_) HS.out ?_
        rotate_left
        · obtain ⟨q0, q1, q2, q3, q4⟩ := hu; go_simp <;> with_reducible rfl
        simp only [Act.put, List.setIfInBounds_toArray, List.set_cons_zero, List.set_cons_succ]
        refine takeU 13 (v := ?_) rfl (by kernel_rfl) (by kernel_rfl) (fun _ _ _ h => h) rfl (fun u hu => ?_) HS.out ?_
        rotate_left
        · obtain ⟨q0, q1, q2, q3, q4⟩ := hu; go_simp <;> with_reducible rfl
        simp only [Act.put, List.setIfInBounds_toArray, List.set_cons_zero, List.set_cons_succ]
        refine takeU 14 (v := ?_) rfl (by kernel_rfl) (by kernel_rfl) (fun _ _ _ h => h) rfl (fun u hu => ?_) HS.out ?_
        rotate_left
        · obtain ⟨q0, q1, q2, q3, q4⟩ := hu; go_simp <;> with_reducible rfl
        simp only [Act.put, List.setIfInBounds_toArray, List.set_cons_zero, List.set_cons_succ]
        refine takeU 15 (v := ?_) rfl (by kernel_rfl) (by kernel_rfl) (fun _ _ _ h => h) rfl (fun u hu => ?_) HS.out ?_
        rotate_left
        · obtain ⟨q0, q1, q2, q3, q4⟩ := hu; go_simp <;> with_reducible rfl
        simp only [Act.put, List.setIfInBounds_toArray, List.set_cons_zero, List.set_cons_succ]
        refine oneU 10 (by kernel_rfl) ?_
        refine callU 10 rfl (by kernel_rfl) rfl 21 _ _ rfl #[.pointer (some ⟨lb2, 0, none⟩), .agg #[.int .i64 yon, .int .i64 ykd, .int .i64 yn, .string ys, .slice ysp yl ysc]] (by simp [Act.eval]) (enters_of Tryd.func21 (by kernel_rfl) rfl) (fun v w' => v = .int .i64 r ∧ Hid (LAt w.heap.size w b g cap lb2 (dk0 (doX lA' LM ykd ys).2.1) (doX lA' LM ykd ys).2.2 w' ∧ Chg (fun k => k = lb2 ∨ k = b ∨ k = g) w2 w')) (HC1.out.mono fun e w' ⟨h1, h2, h3⟩ => ⟨_, h1, rfl, h2, h3⟩) ?_
        rintro v w3 ⟨rfl, hK⟩
        have HK3 := hK
        have HN3 := Lib.hid (HP2.out.n.apart HP2.out.m.muts hK.out.2 (by have := HDIS.out.d1; omega) (by have := HDIS.out.d2; omega) (by have := HDIS.out.d3; omega) hK.out.1.below)
        clear hK
        refine ⟨HOy.out w3 HN3.out.below, ?_⟩
        simp only [Act.put, List.setIfInBounds_toArray, List.set_cons_zero, List.set_cons_succ]
        refine oneU 16 (by kernel_rfl) ?_
        refine callU 16 rfl (by kernel_rfl) rfl 21 _ _ rfl #[.pointer (some ⟨lb3, 0, none⟩), .agg #[.int .i64 yon, .int .i64 ykd, .int .i64 yn, .string ys, .slice ysp yl ysc]] (by simp [Act.eval]) (enters_of Tryd.func21 (by kernel_rfl) rfl) (fun v w' => v = .int .i64 r ∧ Hid (LAt w.heap.size w b3 g3 cap3 lb3 (dk0 (doX lG' LM ykd ys).2.1) (doX lG' LM ykd ys).2.2 w' ∧ Chg (fun k => k = lb3 ∨ k = b3 ∨ k = g3) w3 w')) ((HC2.out w3 HN3.out).mono fun e w' ⟨h1, h2, h3⟩ => ⟨_, h1, rfl, h2, h3⟩) ?_
        rintro v w4 ⟨rfl, hK⟩
        have HP4 := Lib.hid (HP2.out.both HDIS.out ykd ys HK3.out.1 HK3.out.2 hK.out.1 hK.out.2)
        clear hK
        refine ⟨HOy.out w4 HP4.out.a.below, ?_⟩
        simp only [Act.put, List.setIfInBounds_toArray, List.set_cons_zero, List.set_cons_succ]
        refine takeU 17 (v := ?_) rfl (by kernel_rfl) (by kernel_rfl) (fun _ _ _ h => h) rfl (fun u hu => ?_) (HOy.out w4 HP4.out.a.below) ?_
        rotate_left
        · skip; go_simp <;> with_reducible rfl
        simp only [Act.put, List.setIfInBounds_toArray, List.set_cons_zero, List.set_cons_succ]
        refine oneU 18 (by kernel_rfl) ?_
        refine endU (v := ?_) 18 rfl (by kernel_rfl) (by kernel_rfl) rfl ?_ ?_
        rotate_left
        · go_simp <;> with_reducible rfl
        simp only [Act.put, List.setIfInBounds_toArray, List.set_cons_zero, List.set_cons_succ]
        clear HS HC1 HC2 HK3 HN3 HP2
        go_wp2_with fail
        exact ⟨⟨i + 1, _, _, _, _, rfl, .inr (by omega), HP4.out.mono (by omega)⟩, by simp only [intOf]; omega⟩
      · have hib2 : ¬ (i : Int) < (nb : Int) := by omega
        have cb2 : decide ((i : Int) < (nb : Int)) = false := decide_eq_false hib2
        go_wp2_with fail
        obtain ⟨sna, psa, hia⟩ := HPr.out.ia
        obtain ⟨snG, psG, hiG⟩ := HPr.out.iG
        have HAF := Lib.hid (HPr.out.a.on.afterF (hia.m.ok (by omega)) (.slice pc nc cc) css (HC0.out.below HPr.out.a.below) HLC.out)
        refine HAF.out.mono ?_
        rintro e w1 ⟨v1, rfl, hws1, _, hb1⟩
        rw [after4 lA' css HPr.out.la] at hws1
        have HP1 := Lib.hid (HPr.out.grow hb1)
        have HW1 := Lib.hid hws1
        obtain ⟨q1, o1, c1, rfl, _⟩ := hws1.four
        clear hws1 hb1 HAF
        go_wp2_with fail
        have HAG := Lib.hid (HP1.out.n.on.afterF (hiG.m.ok (by omega)) (.slice pc nc cc) css (HC0.out.below HP1.out.a.below) HLC.out)
        refine HAG.out.mono ?_
        rintro e w2 ⟨v2, rfl, hws2, _, hb2⟩
        rw [after4 lG' css HPr.out.lg, HPr.out.e2, HPr.out.e3] at hws2
        have HP2 := Lib.hid (HP1.out.grow hb2)
        obtain ⟨q2, o2, c2, rfl, hcells2⟩ := hws2.four
        obtain ⟨q1', o1', c1', hv1, hcells1⟩ := (HW1.out.below hb2).four
        injection hv1 with hv1 _ hv3
        injection hv1 with hv1
        injection hv1 with hq ho
        subst hq ho
        obtain ⟨X2, hX2⟩ : ∃ x, x = left (lA'.getD 2 Fl.zero) (css.getD 2 []) := ⟨_, rfl⟩
        obtain ⟨X3, hX3⟩ : ∃ x, x = left (lA'.getD 3 Fl.zero) (css.getD 3 []) := ⟨_, rfl⟩
        rw [← hX2, ← hX3] at hcells1 hcells2
        have f12 : ∀ t : Grow w2, t.val.cell? ⟨q1, o1 + 2, none⟩ = some (.string X2) := fun t => t.cell (hcells1.1)
        have f13 : ∀ t : Grow w2, t.val.cell? ⟨q1, o1 + 3, none⟩ = some (.string X3) := fun t => t.cell (hcells1.2)
        have f22 : ∀ t : Grow w2, t.val.cell? ⟨q2, o2 + 2, none⟩ = some (.string X2) := fun t => t.cell (hcells2.1)
        have f23 : ∀ t : Grow w2, t.val.cell? ⟨q2, o2 + 3, none⟩ = some (.string X3) := fun t => t.cell (hcells2.2)
        have HR2 : Hid (∀ t : Grow w2, Calls Tryd.prog 18 #[.pointer (some ⟨lb2, 0, none⟩)] t.val fun e w' => e = .returned (.int .i64 (LM.n : Nat)) ∧ Below t.val.heap.size t.val w') := fun t => (recordsW (HP2.out.m.log.grow t)).mono fun e w' ⟨h1, h2⟩ => ⟨h1, h2 ▸ Below.refl _ _⟩
        have HR3 : Hid (∀ t : Grow w2, Calls Tryd.prog 18 #[.pointer (some ⟨lb3, 0, none⟩)] t.val fun e w' => e = .returned (.int .i64 (LM.n : Nat)) ∧ Below t.val.heap.size t.val w') := fun t => (recordsW (HP2.out.n.log.grow t)).mono fun e w' ⟨h1, h2⟩ => ⟨h1, h2 ▸ Below.refl _ _⟩
        have HRF : Hid (∀ t : Grow w2, Calls Tryd.prog 12 #[] t.val fun e w' => e = .returned (.bool true) ∧ Below t.val.heap.size t.val w') := fun t => fixedLW t.val
        clear hws2 hb2 HAG HW1 HP1 hcells1 hcells2 hX2 hX3 hv3
        go_wp2_with fail
        refine wp_region_fam (by kernel_rfl) (by kernel_rfl) Grow.val (Grow.start w2) ?_
        repeat go_big_quiet_step ((first | (with_reducible refine Calls.fam_of (HR2.out _) (Grow.more _)) | (with_reducible refine Calls.fam_of (HR3.out _) (Grow.more _)) | (with_reducible refine Calls.fam_of (HRF.out _) (Grow.more _))))
        refine wpQuiet_nil ?_
        intro tt
        have HB9 := Lib.hid (HP2.out.a.below.trans (tt.below.mono HP2.out.a.below.size))
        go_wp2_with fail
        go_ret
        exact ⟨rfl, HB9.out⟩
end Go.Proofs.YtamaefnlicloaaaDoor
