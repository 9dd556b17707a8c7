/- The audit's log: its object; Link, Dead.
   The audit's Room.
   The audit's Texts.
   The audit's Sync.
   The audit's texts in memory, apart from other blocks.
   The audit's Append, where the text fits and the disk says OK.
   The audit's Append: a text too long, one that does not fit, and one in which the power goes.
   The audit's Sync in which the power goes.
   The audit's Open: refused quotas; the power that goes; and what is opened. -/
import Derived.Test.YtilpbjcbffbjeaaGreatDoorAVer
import Derived.Test.YtilpbjcbffbjeaaGreatDoorPkG
import Derived.Test.YtilpbjcbffbjeaaGreatDoorShelf
import Derived.ArgAppend
import Derived.Test.YtilpbjcbffbjeaaGreatDoorWOpen
namespace Go.Proofs.YtilpbjcbffbjeaaGreatDoor
set_option linter.unusedVariables false
set_option maxRecDepth 100000
open Go.RowKit
/-- A log: over the disk at d, in file f, with a quota; its texts' slice, its last link. -/
structure ALog where
  d : Addr
  f : Int
  quota : Int
  v : Value
  link : ByteArray
  dead : Bool
def IsALog (w : World) (b : Nat) (l : ALog) : Prop := w.heap[b]? = some (.cells #[.pointer (some l.d), .int .i64 l.f, .int .i64 l.quota, l.v, .string l.link, .bool l.dead] 111 (0, 0))
theorem IsALog.lt {w : World} {b : Nat} {l : ALog} (h : IsALog w b l) : b < w.heap.size := (Array.getElem?_eq_some_iff.1 h).1
theorem IsALog.same {w w' : World} {b : Nat} {l : ALog} (h : IsALog w b l) (e : w'.heap[b]? = w.heap[b]?) : IsALog w' b l := e.trans h
theorem IsALog.below {w w' : World} {b B : Nat} {l : ALog} (h : IsALog w b l) (hb : Below B w w') (hB : b < B) : IsALog w' b l := h.same (hb.block b hB)
theorem IsALog.c0 {w : World} {b : Nat} {l : ALog} (h : IsALog w b l) : w.cell? ⟨b, 0, none⟩ = some (.pointer (some l.d)) := by simp [World.cell?, show w.heap[b]? = _ from h]
theorem IsALog.c1 {w : World} {b : Nat} {l : ALog} (h : IsALog w b l) : w.cell? ⟨b, 1, none⟩ = some (.int .i64 l.f) := by simp [World.cell?, show w.heap[b]? = _ from h]
theorem IsALog.c2 {w : World} {b : Nat} {l : ALog} (h : IsALog w b l) : w.cell? ⟨b, 2, none⟩ = some (.int .i64 l.quota) := by simp [World.cell?, show w.heap[b]? = _ from h]
theorem IsALog.c3 {w : World} {b : Nat} {l : ALog} (h : IsALog w b l) : w.cell? ⟨b, 3, none⟩ = some l.v := by simp [World.cell?, show w.heap[b]? = _ from h]
theorem IsALog.c4 {w : World} {b : Nat} {l : ALog} (h : IsALog w b l) : w.cell? ⟨b, 4, none⟩ = some (.string l.link) := by simp [World.cell?, show w.heap[b]? = _ from h]
theorem IsALog.c5 {w : World} {b : Nat} {l : ALog} (h : IsALog w b l) : w.cell? ⟨b, 5, none⟩ = some (.bool l.dead) := by simp [World.cell?, show w.heap[b]? = _ from h]
theorem IsALog.free {w : World} {b : Nat} {l : ALog} (h : IsALog w b l) (k : Nat) : w.frozen? ⟨b, k, none⟩ = false := by simp [World.frozen?, show w.heap[b]? = _ from h]
theorem alinkW {w : World} {b : Nat} {l : ALog} (h : IsALog w b l) : Calls Tryz.prog 34 #[.pointer (some ⟨b, 0, none⟩)] w fun e w' => e = .returned (.string l.link) ∧ w' = w := by
  have h4 := h.c4
  clear h
  go_enter Tryz.func34, Tryz.ntmps34
  go_wp2_with fail
  go_ret
  exact ⟨rfl, rfl⟩
end Go.Proofs.YtilpbjcbffbjeaaGreatDoor
namespace Go.Proofs.YtilpbjcbffbjeaaGreatDoor
set_option linter.unusedVariables false
set_option maxRecDepth 100000
open Go.RowKit
set_option linter.unusedSectionVars false
variable [Avoid]
/-- How long a text may be that is taken now, of a file of z bytes. -/
def aroom (quota : Int) (z : Nat) : Int := min 1024 (max (-1) (quota - (z : Int) - 19 - 32))
theorem IsALog.grow {w : World} {b : Nat} {l : ALog} (h : IsALog w b l) (t : Grow w) : IsALog t.val b l := h.below t.below h.lt
set_option maxHeartbeats 800000 in
theorem aroomW {w : World} {lb b g cap f : Nat} {l : ALog} {D : Dk} (h : IsALog w lb l) (hd : IsDisk w b g cap D) (hok : DOk D) (hf : f < D.l.length) (hlf : l.f = (f : Nat)) (hld : l.d = ⟨b, 0, none⟩) (hq : 0 ≤ l.quota ∧ l.quota ≤ 262144) :
    Calls Tryz.prog 59 #[.pointer (some ⟨lb, 0, none⟩)] w fun e w' => e = .returned (.int .i64 (aroom l.quota (rd (D.l.getD f Fl.zero)).size)) ∧ Below w.heap.size w w' := by
  have c0 : ∀ t : Grow w, t.val.cell? ⟨lb, 0, none⟩ = some (.pointer (some ⟨b, 0, none⟩)) := fun t => hld ▸ (h.grow t).c0
  have c1 : ∀ t : Grow w, t.val.cell? ⟨lb, 1, none⟩ = some (.int .i64 (f : Nat)) := fun t => hlf ▸ (h.grow t).c1
  have c2 : ∀ t : Grow w, t.val.cell? ⟨lb, 2, none⟩ = some (.int .i64 l.quota) := fun t => (h.grow t).c2
  have HS := Lib.hid (fun t : Grow w => sizeYes (hd.below t.below) hok f hf)
  have hz := hok.size f hf
  obtain ⟨z, hzz⟩ : ∃ z, z = (rd (D.l.getD f Fl.zero)).size := ⟨_, rfl⟩
  rw [← hzz] at HS hz ⊢
  obtain ⟨Q, hQ⟩ : ∃ Q, Q = l.quota := ⟨_, rfl⟩
  rw [← hQ] at c2 hq ⊢
  obtain ⟨q1, q2⟩ := hq
  clear h hd hok hzz hQ hld hlf
  go_enter Tryz.func59, Tryz.ntmps59
  go_wp2_with fail
  refine wp_region_fam (by kernel_rfl) (by kernel_rfl) Grow.val (Grow.start w) ?_
  repeat go_big_quiet_step ((with_reducible refine Calls.fam_of (HS.out _) (Grow.more _)))
  refine wpQuiet_nil ?_
  intro t
  clear c0 c1 c2
  go_wp2_with fail
  go_ret
  exact ⟨rfl, t.below⟩
end Go.Proofs.YtilpbjcbffbjeaaGreatDoor
namespace Go.Proofs.YtilpbjcbffbjeaaGreatDoor
set_option linter.unusedVariables false
set_option maxRecDepth 100000
open Go.RowKit
theorem strs_own {w w' : World} {base : Nat} {p : Option Addr} {cap K c : Nat} {ss : List ByteArray} (h : w.ownsRow base 9 1 (.slice p K cap) K (ss.map Value.string)) (hK : ss.length = K) (hb : Below w.heap.size w w') : Strs w' (.slice p K c) ss := by
  rw [← hK]
  refine Strs.mk fun i hi => ?_
  rcases h.2 with ⟨h1, h2⟩ | ⟨g, cp, cur, h1, _, hg, _⟩
  · omega
  · simp only [Value.slice.injEq] at h1
    obtain ⟨rfl, _, rfl⟩ := h1
    refine ⟨g, 0, rfl, ?_⟩
    have hc := h.cells (g := g) rfl i (.string (ss.getD i ByteArray.empty)) (by
      rw [List.getElem?_map, List.getD_eq_getElem?_getD, List.getElem?_eq_getElem hi]; rfl)
    have hlt : g < w.heap.size := (Array.getElem?_eq_some_iff.1 hg).1
    have e : ((⟨g, 0, none⟩ : Addr).add i) = ⟨g, i, none⟩ := by
      by_cases h : i = 0
      · subst h; rfl
      · simp [Addr.add, h]
    rw [e] at hc
    rw [Nat.zero_add]
    exact (hb.cell (p := ⟨g, i, none⟩) hlt).trans hc
theorem own_cap {w : World} {base K cap : Nat} {p : Option Addr} {xs : List Value} (h : w.ownsRow base 9 1 (.slice p K cap) K xs) : K ≤ cap ∧ cap ≤ 9223372036854775807 := by
  rcases h.2 with ⟨h, h2⟩ | ⟨g, cp, cur, h, _, _, hc1, hc2, _⟩
  · simp only [Value.slice.injEq] at h; omega
  · simp only [Value.slice.injEq] at h
    have : maxLen ≤ 9223372036854775807 := by decide
    omega
/-- A clone of a slice of strings. -/
theorem cloneStrs {w : World} {v : Value} {ss : List ByteArray} (h : Strs w v ss) (hl : ss.length ≤ 1048576) :
    Calls Tryz.prog 66 #[v] w fun e w' => ∃ p cap, e = .returned (.slice p ss.length cap) ∧ ss.length ≤ cap ∧ cap ≤ 9223372036854775807 ∧ (∀ c, Strs w' (.slice p ss.length c) ss) ∧ Below w.heap.size w w' := by
  obtain ⟨p, cap, rfl, hc⟩ := h.form
  rcases p with _ | a
  · have h0 : ss = [] := by
      rcases ss with _ | ⟨s, ss⟩
      · rfl
      · obtain ⟨b, off, e, _⟩ := hc 0 (by simp)
        cases e
    subst h0
    refine (Tryz.slices_Clone_string_nil _ _ w).mono fun e w' ⟨h1, h2⟩ => ⟨none, 0, h1, Nat.le_refl _, by decide, fun c => Strs.mk (fun i hi => by simp at hi), h2 ▸ Below.refl _ _⟩
  · by_cases h0 : ss = []
    · subst h0
      refine (Tryz.slices_Clone_string_zero a cap w).mono ?_
      rintro e w' ⟨v', rfl, hr, _, hb⟩
      obtain ⟨p, cp, rfl⟩ := rowShape hr
      exact ⟨p, cp, rfl, (own_cap hr).1, (own_cap hr).2, fun c => Strs.mk (fun i hi => by simp at hi), hb⟩
    · have hpos : 0 < ss.length := List.length_pos_iff.2 h0
      obtain ⟨b, off, e, _⟩ := hc 0 hpos
      obtain rfl := Option.some.inj e
      refine (Tryz.slices_Clone_string b off ss.length cap ss w (Nat.le_refl _) (by omega) (fun j hj => by
        obtain ⟨b', off', e', hcell⟩ := hc j hj
        cases e'
        exact hcell)).mono ?_
      rintro e w' ⟨v', rfl, hr, _, hb⟩
      rw [List.take_length] at hr
      obtain ⟨p, cp, rfl⟩ := rowShape hr
      exact ⟨p, cp, rfl, (own_cap hr).1, (own_cap hr).2, fun c => strs_own hr rfl (Below.refl _ _), hb⟩
theorem atextsW {w : World} {lb : Nat} {l : ALog} {ss : List ByteArray} (h : IsALog w lb l) (hv : Strs w l.v ss) (hl : ss.length ≤ 1048576) :
    Calls Tryz.prog 23 #[.pointer (some ⟨lb, 0, none⟩)] w fun e w' => ∃ p, e = .returned (.slice p ss.length ss.length) ∧ Strs w' (.slice p ss.length ss.length) ss ∧ Below w.heap.size w w' := by
  have h3 := h.c3
  have HC := Lib.hid (cloneStrs hv hl)
  have HCL := Lib.hid (fun p K cap w h1 h2 => clipW p K cap w h1 h2)
  obtain ⟨K, hK⟩ : ∃ K, ss.length = K := ⟨_, rfl⟩
  rw [hK] at HC ⊢
  clear h hv hl hK
  go_enter Tryz.func23, Tryz.ntmps23
  go_wp2_with fail
  refine HC.out.mono ?_
  rintro e w1 ⟨p, cap, rfl, k1, k2, hs, hb⟩
  have HS := Lib.hid (hs K)
  clear hs
  go_wp2_with fail
  refine (HCL.out p K cap _ k1 k2).mono ?_
  rintro e w2 ⟨rfl, rfl⟩
  go_wp2_with fail
  go_ret
  exact ⟨p, rfl, HS.out, hb⟩
end Go.Proofs.YtilpbjcbffbjeaaGreatDoor
namespace Go.Proofs.YtilpbjcbffbjeaaGreatDoor
set_option linter.unusedVariables false
set_option maxRecDepth 100000
open Go.RowKit
set_option linter.unusedSectionVars false
variable [Avoid]
theorem IsALog.keep {w w' : World} {b : Nat} {l : ALog} {p : Nat → Prop} (h : IsALog w b l) (hc : Chg p w w') (hb : ¬ p b) : IsALog w' b l := h.same (hc.block b h.lt hb)
set_option maxHeartbeats 1600000 in
theorem asyncOk {w : World} {lb b g cap f : Nat} {l : ALog} {D : Dk} (h : IsALog w lb l) (hd : IsDisk w b g cap D) (hok : DOk D) (hne : lb ≠ b ∧ lb ≠ g) (hlf : l.f = (f : Nat)) (hld : l.d = ⟨b, 0, none⟩) (hdl : l.dead = false) (hr : (D.syncX (f : Nat)).2 = 0) :
    Calls Tryz.prog 18 #[.pointer (some ⟨lb, 0, none⟩)] w fun e w' => e = .returned (.int .i64 0) ∧ IsALog w' lb l ∧ IsDisk w' b g cap (D.syncX (f : Nat)).1 ∧ Chg (fun k => k = b ∨ k = g) w w' := by
  have HW := Lib.hid (fun (w1 : World) (hb : Below w.heap.size w w1) => syncA (hd.below hb) hok (f : Nat))
  rw [hr] at HW
  have HL := Lib.hid h
  have HD0 := Lib.hid hd
  have HNE := Lib.hid hne
  have K0 : Hid (∀ u, IsALog u lb l → u.cell? ⟨lb, 5, none⟩ = some (.bool false) ∧ u.cell? ⟨lb, 0, none⟩ = some (.pointer (some ⟨b, 0, none⟩)) ∧ u.cell? ⟨lb, 1, none⟩ = some (.int .i64 (f : Nat))) := fun u hu => ⟨hdl ▸ hu.c5, hld ▸ hu.c0, hlf ▸ hu.c1⟩
  clear h hd hok hdl hr hne hlf hld
  go_enter Tryz.func18, Tryz.ntmps18
  go_wp2_with fail
  refine wp_region_U 15 (fun u => u.cell? ⟨lb, 5, none⟩ = some (.bool false) ∧ u.cell? ⟨lb, 0, none⟩ = some (.pointer (some ⟨b, 0, none⟩)) ∧ u.cell? ⟨lb, 1, none⟩ = some (.int .i64 (f : Nat))) (by kernel_rfl) ?_
  change wpAnyU _ _ _ _ _ _ 16 (Array.replicate 16 false) _ _
  obtain ⟨w2, hw2⟩ : ∃ w2, w2 = w.drew := ⟨_, rfl⟩
  rw [← hw2]
  have HL2 : Hid (IsALog w2 lb l) := by unfold Hid; rw [hw2]; exact HL.out.below (Below.refl _ _).drew HL.out.lt
  have HB2 : Hid (Below w.heap.size w w2) := by unfold Hid; rw [hw2]; exact (Below.refl _ _).drew
  clear hw2
  have HS := Lib.hid (K0.out w2 HL2.out)
  refine takeU 0 (v := ?_) rfl (by kernel_rfl) (by kernel_rfl) (fun _ _ _ h => h) rfl (fun u hu => ?_) HS.out ?_
  rotate_left
  · obtain ⟨q5, q0, q1⟩ := hu; go_simp <;> with_reducible rfl
  simp only [Act.put, List.setIfInBounds_toArray, List.set_cons_zero, List.set_cons_succ]
  refine takeU 1 (v := ?_) rfl (by kernel_rfl) (by kernel_rfl) (fun _ _ _ h => h) rfl (fun u hu => ?_) HS.out ?_
  rotate_left
  · obtain ⟨q5, q0, q1⟩ := hu; go_simp <;> with_reducible rfl
  simp only [Act.put, List.setIfInBounds_toArray, List.set_cons_zero, List.set_cons_succ]
  refine takeU 2 (v := ?_) rfl (by kernel_rfl) (by kernel_rfl) (fun _ _ _ h => h) rfl (fun u hu => ?_) HS.out ?_
  rotate_left
  · obtain ⟨q5, q0, q1⟩ := hu; go_simp <;> with_reducible rfl
  simp only [Act.put, List.setIfInBounds_toArray, List.set_cons_zero, List.set_cons_succ]
  refine takeU 3 (v := ?_) rfl (by kernel_rfl) (by kernel_rfl) (fun _ _ _ h => h) rfl (fun u hu => ?_) HS.out ?_
  rotate_left
  · obtain ⟨q5, q0, q1⟩ := hu; go_simp <;> with_reducible rfl
  simp only [Act.put, List.setIfInBounds_toArray, List.set_cons_zero, List.set_cons_succ]
  refine takeU 4 (v := ?_) rfl (by kernel_rfl) (by kernel_rfl) (fun _ _ _ h => h) rfl (fun u hu => ?_) HS.out ?_
  rotate_left
  · obtain ⟨q5, q0, q1⟩ := hu; go_simp <;> with_reducible rfl
  simp only [Act.put, List.setIfInBounds_toArray, List.set_cons_zero, List.set_cons_succ]
  refine takeU 5 (v := ?_) rfl (by kernel_rfl) (by kernel_rfl) (fun _ _ _ h => h) rfl (fun u hu => ?_) HS.out ?_
  rotate_left
  · obtain ⟨q5, q0, q1⟩ := hu; go_simp <;> with_reducible rfl
  simp only [Act.put, List.setIfInBounds_toArray, List.set_cons_zero, List.set_cons_succ]
  refine takeU 6 (v := ?_) rfl (by kernel_rfl) (by kernel_rfl) (fun _ _ _ h => h) rfl (fun u hu => ?_) HS.out ?_
  rotate_left
  · obtain ⟨q5, q0, q1⟩ := hu; go_simp <;> with_reducible rfl
  simp only [Act.put, List.setIfInBounds_toArray, List.set_cons_zero, List.set_cons_succ]
  refine takeU 7 (v := ?_) rfl (by kernel_rfl) (by kernel_rfl) (fun _ _ _ h => h) rfl (fun u hu => ?_) HS.out ?_
  rotate_left
  · obtain ⟨q5, q0, q1⟩ := hu; go_simp <;> with_reducible rfl
  simp only [Act.put, List.setIfInBounds_toArray, List.set_cons_zero, List.set_cons_succ]
  refine takeU 8 (v := ?_) rfl (by kernel_rfl) (by kernel_rfl) (fun _ _ _ h => h) rfl (fun u hu => ?_) HS.out ?_
  rotate_left
  · obtain ⟨q5, q0, q1⟩ := hu; go_simp <;> with_reducible rfl
  simp only [Act.put, List.setIfInBounds_toArray, List.set_cons_zero, List.set_cons_succ]
  refine takeU 9 (v := ?_) rfl (by kernel_rfl) (by kernel_rfl) (fun _ _ _ h => h) rfl (fun u hu => ?_) HS.out ?_
  rotate_left
  · obtain ⟨q5, q0, q1⟩ := hu; go_simp <;> with_reducible rfl
  simp only [Act.put, List.setIfInBounds_toArray, List.set_cons_zero, List.set_cons_succ]
  refine takeU 10 (v := ?_) rfl (by kernel_rfl) (by kernel_rfl) (fun _ _ _ h => h) rfl (fun u hu => ?_) HS.out ?_
  rotate_left
  · obtain ⟨q5, q0, q1⟩ := hu; go_simp <;> with_reducible rfl
  simp only [Act.put, List.setIfInBounds_toArray, List.set_cons_zero, List.set_cons_succ]
  refine takeU 11 (v := ?_) rfl (by kernel_rfl) (by kernel_rfl) (fun _ _ _ h => h) rfl (fun u hu => ?_) HS.out ?_
  rotate_left
  · obtain ⟨q5, q0, q1⟩ := hu; go_simp <;> with_reducible rfl
  simp only [Act.put, List.setIfInBounds_toArray, List.set_cons_zero, List.set_cons_succ]
  refine takeU 12 (v := ?_) rfl (by kernel_rfl) (by kernel_rfl) (fun _ _ _ h => h) rfl (fun u hu => ?_) HS.out ?_
  rotate_left
  · obtain ⟨q5, q0, q1⟩ := hu; go_simp <;> with_reducible rfl
  simp only [Act.put, List.setIfInBounds_toArray, List.set_cons_zero, List.set_cons_succ]
  refine oneU 13 (by kernel_rfl) ?_
  refine callU 13 rfl (by kernel_rfl) rfl 53 _ _ rfl #[.pointer (some ⟨b, 0, none⟩), .int .i64 (f : Nat)] (by simp [Act.eval]) (enters_of Tryz.func53 (by kernel_rfl) rfl) (fun v w' => v = .int .i64 0 ∧ Hid (IsDisk w' b g cap (D.syncX (f : Nat)).1 ∧ Chg (fun k => k = b ∨ k = g) w2 w')) ((HW.out _ HB2.out).mono fun e w' ⟨h1, h2, h3⟩ => ⟨_, h1, rfl, h2, h3⟩) ?_
  rintro v w3 ⟨rfl, hK⟩
  have HD3 := Lib.hid hK.out.1
  have HC3 := Lib.hid ((Chg.of_below (fun k => k = b ∨ k = g) HB2.out).trans hK.out.2)
  have HL3 := Lib.hid (HL.out.keep HC3.out (fun e => by have := HNE.out; omega))
  refine ⟨K0.out w3 HL3.out, ?_⟩
  simp only [Act.put, List.setIfInBounds_toArray, List.set_cons_zero, List.set_cons_succ]
  refine takeU 14 (v := ?_) rfl (by kernel_rfl) (by kernel_rfl) (fun _ _ _ h => h) rfl (fun u hu => ?_) (K0.out w3 HL3.out) ?_
  rotate_left
  · obtain ⟨q5, q0, q1⟩ := hu; go_simp <;> with_reducible rfl
  simp only [Act.put, List.setIfInBounds_toArray, List.set_cons_zero, List.set_cons_succ]
  refine oneU 15 (by kernel_rfl) ?_
  refine endU (v := ?_) 15 rfl (by kernel_rfl) (by kernel_rfl) rfl ?_ ?_
  rotate_left
  · go_simp <;> with_reducible rfl
  simp only [Act.put, List.setIfInBounds_toArray, List.set_cons_zero, List.set_cons_succ]
  go_wp2_with fail
  go_ret
  exact ⟨rfl, HL3.out, HD3.out, HC3.out⟩
end Go.Proofs.YtilpbjcbffbjeaaGreatDoor
namespace Go.Proofs.YtilpbjcbffbjeaaGreatDoor
set_option linter.unusedVariables false
set_option maxRecDepth 100000
open Go.RowKit
/-- The value of a slice of strings whose block is none of P. -/
structure TxA (P : Nat → Prop) (w : World) (v : Value) (ss : List ByteArray) : Prop where
  ex : ∃ p cap, v = .slice p ss.length cap ∧ ss.length ≤ cap ∧ cap ≤ 9223372036854775807 ∧ (p = none → cap = 0) ∧
    ∀ a, p = some a → a.spot = none ∧ ¬ P a.block ∧ a.block < w.heap.size ∧ ∀ i, i < ss.length → w.cell? ⟨a.block, a.off + i, none⟩ = some (.string (ss.getD i ByteArray.empty))
theorem TxA.strs {P : Nat → Prop} {w : World} {v : Value} {ss : List ByteArray} (h : TxA P w v ss) : Strs w v ss := by
  obtain ⟨p, cap, rfl, h1, h2, h3, h4⟩ := h.ex
  refine Strs.mk fun i hi => ?_
  rcases p with _ | a
  · have := h3 rfl; omega
  · obtain ⟨k1, _, _, k2⟩ := h4 a rfl
    obtain ⟨b, off, s⟩ := a
    cases k1
    exact ⟨b, off, rfl, k2 i hi⟩
theorem TxA.keep {P Q : Nat → Prop} {w w' : World} {v : Value} {ss : List ByteArray} (h : TxA P w v ss) (hc : Chg Q w w') (hQ : ∀ k, Q k → P k) : TxA P w' v ss := by
  obtain ⟨p, cap, rfl, h1, h2, h3, h4⟩ := h.ex
  refine ⟨p, cap, rfl, h1, h2, h3, fun a ha => ?_⟩
  obtain ⟨k1, k2, k3, k4⟩ := h4 a ha
  exact ⟨k1, k2, Nat.lt_of_lt_of_le k3 hc.size, fun i hi => (World.cell?_of_block (a := ⟨a.block, a.off + i, none⟩) (hc.block _ k3 (fun hq => k2 (hQ _ hq)))).trans (k4 i hi)⟩
theorem TxA.below {P : Nat → Prop} {w w' : World} {v : Value} {ss : List ByteArray} (h : TxA P w v ss) (hb : Below w.heap.size w w') : TxA P w' v ss := h.keep (Chg.of_below (fun _ => False) hb) (fun _ h => h.elim)
theorem TxA.row {P : Nat → Prop} {w : World} {base K : Nat} {v : Value} {ss : List ByteArray} (h : w.ownsRow base 9 1 v K (ss.map Value.string)) (hP : ∀ k, P k → k < base) : TxA P w v ss := by
  have hK : K = ss.length := by have := h.1; rw [List.length_map] at this; omega
  subst hK
  obtain ⟨p, cap, rfl⟩ := rowShape h
  have hs := strs_own (c := cap) h rfl (Below.refl _ w)
  obtain ⟨p', cap', e, hc⟩ := hs.form
  simp only [Value.slice.injEq] at e
  obtain ⟨rfl, _, rfl⟩ := e
  refine ⟨p, cap, rfl, (own_cap h).1, (own_cap h).2, fun hp => ?_, fun a ha => ?_⟩
  · subst hp
    rcases h.2 with ⟨h1, _⟩ | ⟨g, cp, cur, h1, _⟩
    · simp only [Value.slice.injEq] at h1; exact h1.2.2
    · simp at h1
  · subst ha
    rcases h.2 with ⟨h1, _⟩ | ⟨g, cp, cur, h1, hg, hgb, _⟩
    · simp at h1
    · simp only [Value.slice.injEq, Option.some.injEq] at h1
      obtain ⟨rfl, _, rfl⟩ := h1
      refine ⟨rfl, fun hp => absurd (hP _ hp) (by simp only; omega), (Array.getElem?_eq_some_iff.1 hgb).1, fun i hi => ?_⟩
      obtain ⟨b, off, e, hcell⟩ := hc i hi
      cases e
      exact hcell
end Go.Proofs.YtilpbjcbffbjeaaGreatDoor
namespace Go.Proofs.YtilpbjcbffbjeaaGreatDoor
set_option linter.unusedVariables false
set_option maxRecDepth 100000
open Go.RowKit Go.Shelf
set_option linter.unusedSectionVars false
variable [Avoid]
theorem IsALog.setTexts {w : World} {b : Nat} {l : ALog} (h : IsALog w b l) (v : Value) (s : ByteArray) : IsALog ((w.setCell ⟨b, 3, none⟩ v).setCell ⟨b, 4, none⟩ (.string s)) b { l with v := v, link := s } := by
  have h1 := heap_setCell_same w b 3 _ 111 v h
  exact heap_setCell_same _ b 4 _ 111 (.string s) h1
theorem IsALog.muts {w : World} {b : Nat} {l : ALog} (h : IsALog w b l) : Muts (fun k => k = b) w := by
  intro k _ hS cur T fr hh
  subst hS
  rw [show w.heap[k]? = _ from h] at hh
  injection hh with hh
  injection hh with _ hT _
  subst hT
  unfold Fix
  decide
set_option maxHeartbeats 1600000 in
theorem aappendOk {w : World} {lb b g cap f : Nat} {l : ALog} {D : Dk} {ss : List ByteArray} (h : IsALog w lb l) (hv : TxA (fun k => k = lb ∨ k = b ∨ k = g) w l.v ss) (hn : ss.length ≤ 16384) (hd : IsDisk w b g cap D) (hok : DOk D)
    (hm : ∀ f, f < D.l.length → (D.l.getD f Fl.zero).ws.length < 1099511627776) (hne : lb ≠ b ∧ lb ≠ g) (hf : f < D.l.length) (hlf : l.f = (f : Nat)) (hld : l.d = ⟨b, 0, none⟩) (hq : 0 ≤ l.quota ∧ l.quota ≤ 262144) (hdl : l.dead = false)
    (hlk : l.link.size = 32) (T : ByteArray) (hT : T.size ≤ 1024) (hroom : (T.size : Int) ≤ aroom l.quota (rd (D.l.getD f Fl.zero)).size)
    (hr : (D.writeX (f : Nat) (recS (ss.length + 1) (T ++ strOf (nextL (bs l.link) (bs T))))).2 = 0) :
    Calls Tryz.prog 17 #[.pointer (some ⟨lb, 0, none⟩), .string T] w fun e w' => e = .returned (.int .i64 0) ∧ ∃ v', IsALog w' lb { l with v := v', link := strOf (nextL (bs l.link) (bs T)) } ∧ OwnsS w' w.heap.size v' (ss ++ [T]) ∧
      IsDisk w' b g cap (D.writeX (f : Nat) (recS (ss.length + 1) (T ++ strOf (nextL (bs l.link) (bs T))))).1 ∧ Chg (fun k => k = lb ∨ k = b ∨ k = g) w w' := by
  obtain ⟨p, cp, hv0, hcp1, hcp2, hpn, hcells⟩ := hv.ex
  obtain ⟨R, hR⟩ : ∃ R, aroom l.quota (rd (D.l.getD f Fl.zero)).size = R := ⟨_, rfl⟩
  obtain ⟨N, hN⟩ : ∃ N, strOf (nextL (bs l.link) (bs T)) = N := ⟨_, rfl⟩
  obtain ⟨K, hK⟩ : ∃ K, ss.length = K := ⟨_, rfl⟩
  obtain ⟨lk, hlkd⟩ : ∃ lk, l.link = lk := ⟨_, rfl⟩
  have hNs : N.size = 32 := by rw [← hN, size_strOf, length_nextL]
  have HRM := Lib.hid (aroomW h hd hok hf hlf hld hq)
  have HNX := Lib.hid (fun w => anextW l.link T w (by omega) (by omega))
  have HRC : Hid (∀ w, Calls Tryz.prog 61 #[.int .i64 ((ss.length + 1 : Nat) : Int), .string (T ++ N)] w fun e w' => e = .returned (.tuple #[.string (recS (ss.length + 1) (T ++ N)), .int .i64 0]) ∧ Below w.heap.size w w') := fun w => recordW (ss.length + 1) (T ++ N) w (by omega) (by omega) (by rw [ByteArray.size_append]; omega)
  have HW := Lib.hid (fun (w1 : World) (hb : Below w.heap.size w w1) => writeA (hd.below hb) hok (f : Nat) (recS (ss.length + 1) (T ++ N)) (by rw [size_recS, ByteArray.size_append]; omega) hm)
  rw [hN] at HNX
  rw [hN] at hr
  rw [hr] at HW
  rw [hR] at HRM hroom
  have m1 : ¬ 9223372036854775807 < T.size + N.size := by omega
  have c5 : w.cell? ⟨lb, 5, none⟩ = some (.bool false) := hdl ▸ h.c5
  have c3 : ∀ w1, Below w.heap.size w w1 → w1.cell? ⟨lb, 3, none⟩ = some (.slice p K cp) := fun w1 hb => by rw [← hK, ← hv0]; exact (h.below hb h.lt).c3
  have c4 : ∀ w1, Below w.heap.size w w1 → w1.cell? ⟨lb, 4, none⟩ = some (.string lk) := fun w1 hb => by rw [← hlkd]; exact (h.below hb h.lt).c4
  rw [hK] at HRC HW
  have e1 : ((K + 1 : Nat) : Int) = (K : Int) + 1 := by omega
  simp only [e1] at HRC
  clear e1
  rw [hlkd] at HNX
  have hT' : ¬ (1024 : Int) < (T.size : Int) := by omega
  have hroom' : ¬ R < (T.size : Int) := by omega
  have HNQ := Lib.hid hN
  have HKQ := Lib.hid hK
  have HL := Lib.hid h
  have HD := Lib.hid hd
  have HNE := Lib.hid hne
  have K0 : Hid (∀ u, IsALog u lb l → u.cell? ⟨lb, 0, none⟩ = some (.pointer (some ⟨b, 0, none⟩)) ∧ u.cell? ⟨lb, 1, none⟩ = some (.int .i64 (f : Nat))) := fun u hu => ⟨hld ▸ hu.c0, hlf ▸ hu.c1⟩
  have HC3 := Lib.hid c3
  have HC4 := Lib.hid c4
  have HNs := Lib.hid hNs
  have HCAP := Lib.hid (And.intro hcp1 hcp2)
  have HPN := Lib.hid hpn
  have HV := Lib.hid hv
  rw [hK] at HCAP
  have hv1 := hv0
  rw [hK] at hv1
  have HV1 := Lib.hid hv1
  have hKn : K ≤ 16384 := by omega
  clear h hv hn hd hok hm hne hf hq hdl hlk hroom hr hNs c3 c4 hT hlf hld hcells hR hN hv0 hv1 hcp1 hcp2 hpn
  go_enter Tryz.func17, Tryz.ntmps17
  go_wp2_with fail
  refine HRM.out.mono ?_
  rintro e w1 ⟨rfl, hb1⟩
  have HB1 := Lib.hid hb1
  have x4 := HC4.out w1 hb1
  clear hb1 c5
  go_wp2_with fail
  refine (HNX.out _).mono ?_
  rintro e w2 ⟨rfl, hb2⟩
  have HB2 := Lib.hid (HB1.out.trans (hb2.mono HB1.out.size))
  have x3 := HC3.out w2 HB2.out
  clear hb2 x4
  go_wp2_with fail
  refine (HRC.out _).mono ?_
  rintro e w3 ⟨rfl, hb3⟩
  have HB3 := Lib.hid (HB2.out.trans (hb3.mono HB2.out.size))
  clear hb3 x3
  go_wp2_with fail
  refine wp_region_U 10 (fun u => u.cell? ⟨lb, 0, none⟩ = some (.pointer (some ⟨b, 0, none⟩)) ∧ u.cell? ⟨lb, 1, none⟩ = some (.int .i64 (f : Nat))) (by kernel_rfl) ?_
  change wpAnyU _ _ _ _ _ _ 11 (Array.replicate 11 false) _ _
  obtain ⟨w4, hw4⟩ : ∃ w4, w4 = w3.drew := ⟨_, rfl⟩
  rw [← hw4]
  have HB4 : Hid (Below w.heap.size w w4) := by unfold Hid; rw [hw4]; exact HB3.out.drew
  have HL4 := Lib.hid (HL.out.below HB4.out HL.out.lt)
  clear hw4
  have HS := Lib.hid (K0.out w4 HL4.out)
  refine takeU 0 (v := ?_) rfl (by kernel_rfl) (by kernel_rfl) (fun _ _ _ h => h) rfl (fun u hu => ?_) HS.out ?_
  rotate_left
  · obtain ⟨q0, q1⟩ := hu; go_simp <;> with_reducible rfl
  simp only [Act.put, List.setIfInBounds_toArray, List.set_cons_zero, List.set_cons_succ]
  refine takeU 1 (v := ?_) rfl (by kernel_rfl) (by kernel_rfl) (fun _ _ _ h => h) rfl (fun u hu => ?_) HS.out ?_
  rotate_left
  · obtain ⟨q0, q1⟩ := hu; go_simp <;> with_reducible rfl
  simp only [Act.put, List.setIfInBounds_toArray, List.set_cons_zero, List.set_cons_succ]
  refine takeU 2 (v := ?_) rfl (by kernel_rfl) (by kernel_rfl) (fun _ _ _ h => h) rfl (fun u hu => ?_) HS.out ?_
  rotate_left
  · obtain ⟨q0, q1⟩ := hu; go_simp <;> with_reducible rfl
  simp only [Act.put, List.setIfInBounds_toArray, List.set_cons_zero, List.set_cons_succ]
  refine takeU 3 (v := ?_) rfl (by kernel_rfl) (by kernel_rfl) (fun _ _ _ h => h) rfl (fun u hu => ?_) HS.out ?_
  rotate_left
  · obtain ⟨q0, q1⟩ := hu; go_simp <;> with_reducible rfl
  simp only [Act.put, List.setIfInBounds_toArray, List.set_cons_zero, List.set_cons_succ]
  refine takeU 4 (v := ?_) rfl (by kernel_rfl) (by kernel_rfl) (fun _ _ _ h => h) rfl (fun u hu => ?_) HS.out ?_
  rotate_left
  · obtain ⟨q0, q1⟩ := hu; go_simp <;> with_reducible rfl
  simp only [Act.put, List.setIfInBounds_toArray, List.set_cons_zero, List.set_cons_succ]
  refine takeU 5 (v := ?_) rfl (by kernel_rfl) (by kernel_rfl) (fun _ _ _ h => h) rfl (fun u hu => ?_) HS.out ?_
  rotate_left
  · obtain ⟨q0, q1⟩ := hu; go_simp <;> with_reducible rfl
  simp only [Act.put, List.setIfInBounds_toArray, List.set_cons_zero, List.set_cons_succ]
  refine takeU 6 (v := ?_) rfl (by kernel_rfl) (by kernel_rfl) (fun _ _ _ h => h) rfl (fun u hu => ?_) HS.out ?_
  rotate_left
  · obtain ⟨q0, q1⟩ := hu; go_simp <;> with_reducible rfl
  simp only [Act.put, List.setIfInBounds_toArray, List.set_cons_zero, List.set_cons_succ]
  refine takeU 7 (v := ?_) rfl (by kernel_rfl) (by kernel_rfl) (fun _ _ _ h => h) rfl (fun u hu => ?_) HS.out ?_
  rotate_left
  · obtain ⟨q0, q1⟩ := hu; go_simp <;> with_reducible rfl
  simp only [Act.put, List.setIfInBounds_toArray, List.set_cons_zero, List.set_cons_succ]
  refine takeU 8 (v := ?_) rfl (by kernel_rfl) (by kernel_rfl) (fun _ _ _ h => h) rfl (fun u hu => ?_) HS.out ?_
  rotate_left
  · obtain ⟨q0, q1⟩ := hu; go_simp <;> with_reducible rfl
  simp only [Act.put, List.setIfInBounds_toArray, List.set_cons_zero, List.set_cons_succ]
  refine oneU 9 (by kernel_rfl) ?_
  refine callU 9 rfl (by kernel_rfl) rfl 62 _ _ rfl #[.pointer (some ⟨b, 0, none⟩), .int .i64 (f : Nat), .string (recS (K + 1) (T ++ N))] (by simp [Act.eval]) (enters_of Tryz.func62 (by kernel_rfl) rfl) (fun v w' => v = .int .i64 0 ∧ Hid (IsDisk w' b g cap (D.writeX (f : Nat) (recS (K + 1) (T ++ N))).1 ∧ Chg (fun k => k = b ∨ k = g) w4 w')) ((HW.out _ HB4.out).mono fun e w' ⟨h1, h2, h3⟩ => ⟨_, h1, rfl, h2, h3⟩) ?_
  rintro v w5 ⟨rfl, hK⟩
  have HD5 := Lib.hid hK.out.1
  have HC5 := Lib.hid ((Chg.of_below (fun k => k = b ∨ k = g) HB4.out).trans hK.out.2)
  have HL5 := Lib.hid (HL.out.keep HC5.out (fun e => by have := HNE.out; omega))
  refine ⟨K0.out w5 HL5.out, ?_⟩
  simp only [Act.put, List.setIfInBounds_toArray, List.set_cons_zero, List.set_cons_succ]
  refine oneU 10 (by kernel_rfl) ?_
  refine endU (v := ?_) 10 rfl (by kernel_rfl) (by kernel_rfl) rfl ?_ ?_
  rotate_left
  · go_simp <;> with_reducible rfl
  simp only [Act.put, List.setIfInBounds_toArray, List.set_cons_zero, List.set_cons_succ]
  have y3 : w5.cell? ⟨lb, 3, none⟩ = some (.slice p K cp) := by rw [← HV1.out]; exact HL5.out.c3
  go_wp2_with fail
  refine (clipW p K cp _ HCAP.out.1 HCAP.out.2).mono ?_
  rintro e w6 ⟨rfl, rfl⟩
  have hT5 := HV.out.keep HC5.out (fun k hk => by rcases hk with rfl | rfl; exact .inr (.inl rfl); exact .inr (.inr rfl))
  have hh : Hid (∀ b0, p = some b0 → ∀ (o : Obj) (j : Nat) (u : Value), (ss.map Value.string)[j]? = some u → (w5.alloc o).cell? (b0.add j) = some u) := by
    obtain ⟨p', cap', e', _, _, _, h4⟩ := hT5.ex
    rw [HV1.out] at e'
    simp only [Value.slice.injEq] at e'
    obtain ⟨rfl, _, rfl⟩ := e'
    intro b0 hb0 o j u hu
    obtain ⟨k1, _, k3, k4⟩ := h4 b0 hb0
    obtain ⟨bb, off, sp⟩ := b0
    cases k1
    have hj : j < ss.length := by
      have := (List.getElem?_eq_some_iff.1 hu).1
      rwa [List.length_map] at this
    have e : ((⟨bb, off, none⟩ : Addr).add j) = ⟨bb, off + j, none⟩ := by
      by_cases h : j = 0
      · subst h; rfl
      · simp [Addr.add, h]
    rw [e, World.cell?_alloc_lt _ _ ⟨bb, off + j, none⟩ k3, k4 j hj]
    rw [List.getElem?_map, List.getElem?_eq_getElem hj] at hu
    rw [List.getD_eq_getElem?_getD, List.getElem?_eq_getElem hj]
    exact hu
  obtain ⟨i0, hi, hz0, hz1, hz2⟩ := info_parts infoS
  have HM1 : Hid (K + 1 ≤ maxLen) := by
    have hm : (16385 : Nat) ≤ maxLen := by decide
    unfold Hid; omega
  have HM2 : Hid ((K + 1) * 16 ≤ 140737488355328) := by unfold Hid; omega
  have HKK : Hid ((ss.map Value.string).length = K * 1) := by unfold Hid; rw [List.length_map]; omega
  have HT5 := Lib.hid hT5
  have y3f := HL5.out.free 3
  have y4f := HL5.out.free 4
  have y4 := HL5.out.c4
  clear hT5
  go_wp2_with (at_builtin; refine wpList_append_grows _ rfl _ _ 28 rfl 9 i0 (.string ⟨#[]⟩) 1 16 Tryz.underlying28 hi hz0 hz1 hz2 rfl (by decide) p K K (ss.map Value.string) rfl ?g1 HKK.out (fun b0 hb0 j u hu => hh.out b0 hb0 _ j u hu) ⟨w5.heap.size, 0, none⟩ 1 1 [.string T] rfl rfl (cell_one_new _ _ _) (by simp [Value.oneCell']) (by omega) HM1.out HM2.out ?_)
  case g1 => intro hp; have := HPN.out hp; have := HCAP.out; omega
  intro v' w7 hown hgrow
  have hb7 : Below w5.heap.size w5 w7 := ((Below.refl _ w5).alloc (Nat.le_refl _) _).grown hgrow (by simp) (fun k e => by cases e)
  have HL7 := Lib.hid (HL5.out.below hb7 HL5.out.lt)
  have z3 := HL7.out.c3
  have z3f := HL7.out.free 3
  have z4f := HL7.out.free 4
  obtain ⟨g', cap', rfl⟩ := ownsRow_succ hown
  have z4 := HL7.out.c4
  have HOWN := Lib.hid hown
  have HB7 := Lib.hid hb7
  clear hown hgrow hb7
  go_wp2_with fail
  go_ret
  have hset := HL7.out.setTexts (.slice (some ⟨g', 0, none⟩) (K + 1) cap') N
  have hch : Chg (fun k => k = lb) w7 ((w7.setCell ⟨lb, 3, none⟩ (.slice (some ⟨g', 0, none⟩) (K + 1) cap')).setCell ⟨lb, 4, none⟩ (.string N)) := (Chg.setCell (fun k => k = lb) w7 rfl _).trans (Chg.setCell (fun k => k = lb) _ rfl _)
  have hd8 := (HD5.out.below HB7.out).keep hch (fun e => HNE.out.1 e.symm) (fun e => HNE.out.2 e.symm) HL7.out.muts
  rw [HNQ.out, HKQ.out]
  refine ⟨rfl, _, hset, ?_, hd8, ((HC5.out.mono (fun k _ h => .inr h)).trans (Chg.of_below _ HB7.out)).trans (hch.mono (fun k _ h => .inl h))⟩
  have hs5 := HC5.out.size
  have hrow := row_base (row_keep HOWN.out hch (fun k _ hb hk => by have := HL.out.lt; subst hk; omega)) (B := w.heap.size) (by omega)
  unfold OwnsS
  rw [List.map_append, List.map_singleton, List.length_append, List.length_singleton]
  rw [HKQ.out]
  exact hrow
end Go.Proofs.YtilpbjcbffbjeaaGreatDoor
namespace Go.Proofs.YtilpbjcbffbjeaaGreatDoor
set_option linter.unusedVariables false
set_option maxRecDepth 100000
open Go.RowKit Go.Shelf
set_option linter.unusedSectionVars false
variable [Avoid]
theorem IsALog.setDead {w : World} {b : Nat} {l : ALog} (h : IsALog w b l) (d : Bool) : IsALog (w.setCell ⟨b, 5, none⟩ (.bool d)) b { l with dead := d } := heap_setCell_same w b 5 _ 111 (.bool d) h
theorem aappendLong {w : World} {lb : Nat} {l : ALog} (h : IsALog w lb l) (hdl : l.dead = false) (T : ByteArray) (hT : 1024 < T.size) :
    Calls Tryz.prog 17 #[.pointer (some ⟨lb, 0, none⟩), .string T] w fun e w' => e = .returned (.int .i64 190) ∧ w' = w := by
  have c5 : w.cell? ⟨lb, 5, none⟩ = some (.bool false) := hdl ▸ h.c5
  have hT' : (1024 : Int) < (T.size : Int) := by omega
  clear h hdl hT
  go_enter Tryz.func17, Tryz.ntmps17
  go_wp2_with fail
  go_ret
  exact ⟨rfl, rfl⟩
theorem aappendFull {w : World} {lb b g cap f : Nat} {l : ALog} {D : Dk} (h : IsALog w lb l) (hdl : l.dead = false) (hd : IsDisk w b g cap D) (hok : DOk D) (hf : f < D.l.length) (hlf : l.f = (f : Nat)) (hld : l.d = ⟨b, 0, none⟩) (hq : 0 ≤ l.quota ∧ l.quota ≤ 262144)
    (T : ByteArray) (hT : T.size ≤ 1024) (hroom : aroom l.quota (rd (D.l.getD f Fl.zero)).size < (T.size : Int)) :
    Calls Tryz.prog 17 #[.pointer (some ⟨lb, 0, none⟩), .string T] w fun e w' => e = .returned (.int .i64 191) ∧ Below w.heap.size w w' := by
  have c5 : w.cell? ⟨lb, 5, none⟩ = some (.bool false) := hdl ▸ h.c5
  have HRM := Lib.hid (aroomW h hd hok hf hlf hld hq)
  obtain ⟨R, hR⟩ : ∃ R, aroom l.quota (rd (D.l.getD f Fl.zero)).size = R := ⟨_, rfl⟩
  rw [hR] at HRM hroom
  have hT' : ¬ (1024 : Int) < (T.size : Int) := by omega
  clear h hdl hd hok hf hlf hld hq hT hR
  go_enter Tryz.func17, Tryz.ntmps17
  go_wp2_with fail
  refine HRM.out.mono ?_
  rintro e w1 ⟨rfl, hb1⟩
  go_wp2_with fail
  go_ret
  exact ⟨rfl, hb1⟩
set_option maxHeartbeats 1600000 in
theorem aappendGone {w : World} {lb b g cap f : Nat} {l : ALog} {D : Dk} {ss : List ByteArray} (h : IsALog w lb l) (hv : TxA (fun k => k = lb ∨ k = b ∨ k = g) w l.v ss) (hn : ss.length ≤ 16384) (hd : IsDisk w b g cap D) (hok : DOk D)
    (hm : ∀ f, f < D.l.length → (D.l.getD f Fl.zero).ws.length < 1099511627776) (hne : lb ≠ b ∧ lb ≠ g) (hf : f < D.l.length) (hlf : l.f = (f : Nat)) (hld : l.d = ⟨b, 0, none⟩) (hq : 0 ≤ l.quota ∧ l.quota ≤ 262144) (hdl : l.dead = false)
    (hlk : l.link.size = 32) (T : ByteArray) (hT : T.size ≤ 1024) (hroom : (T.size : Int) ≤ aroom l.quota (rd (D.l.getD f Fl.zero)).size)
    (hr : (D.writeX (f : Nat) (recS (ss.length + 1) (T ++ strOf (nextL (bs l.link) (bs T))))).2 = 2) :
    Calls Tryz.prog 17 #[.pointer (some ⟨lb, 0, none⟩), .string T] w fun e w' => e = .returned (.int .i64 2) ∧ IsALog w' lb { l with dead := true } ∧
      IsDisk w' b g cap (D.writeX (f : Nat) (recS (ss.length + 1) (T ++ strOf (nextL (bs l.link) (bs T))))).1 ∧ Chg (fun k => k = lb ∨ k = b ∨ k = g) w w' := by
  obtain ⟨p, cp, hv0, hcp1, hcp2, hpn, hcells⟩ := hv.ex
  obtain ⟨R, hR⟩ : ∃ R, aroom l.quota (rd (D.l.getD f Fl.zero)).size = R := ⟨_, rfl⟩
  obtain ⟨N, hN⟩ : ∃ N, strOf (nextL (bs l.link) (bs T)) = N := ⟨_, rfl⟩
  obtain ⟨K, hK⟩ : ∃ K, ss.length = K := ⟨_, rfl⟩
  obtain ⟨lk, hlkd⟩ : ∃ lk, l.link = lk := ⟨_, rfl⟩
  have hNs : N.size = 32 := by rw [← hN, size_strOf, length_nextL]
  have HRM := Lib.hid (aroomW h hd hok hf hlf hld hq)
  have HNX := Lib.hid (fun w => anextW l.link T w (by omega) (by omega))
  have HRC : Hid (∀ w, Calls Tryz.prog 61 #[.int .i64 ((ss.length + 1 : Nat) : Int), .string (T ++ N)] w fun e w' => e = .returned (.tuple #[.string (recS (ss.length + 1) (T ++ N)), .int .i64 0]) ∧ Below w.heap.size w w') := fun w => recordW (ss.length + 1) (T ++ N) w (by omega) (by omega) (by rw [ByteArray.size_append]; omega)
  have HW := Lib.hid (fun (w1 : World) (hb : Below w.heap.size w w1) => writeA (hd.below hb) hok (f : Nat) (recS (ss.length + 1) (T ++ N)) (by rw [size_recS, ByteArray.size_append]; omega) hm)
  rw [hN] at HNX
  rw [hN] at hr
  rw [hr] at HW
  rw [hR] at HRM hroom
  have m1 : ¬ 9223372036854775807 < T.size + N.size := by omega
  have c5 : w.cell? ⟨lb, 5, none⟩ = some (.bool false) := hdl ▸ h.c5
  have c3 : ∀ w1, Below w.heap.size w w1 → w1.cell? ⟨lb, 3, none⟩ = some (.slice p K cp) := fun w1 hb => by rw [← hK, ← hv0]; exact (h.below hb h.lt).c3
  have c4 : ∀ w1, Below w.heap.size w w1 → w1.cell? ⟨lb, 4, none⟩ = some (.string lk) := fun w1 hb => by rw [← hlkd]; exact (h.below hb h.lt).c4
  rw [hK] at HRC HW
  have e1 : ((K + 1 : Nat) : Int) = (K : Int) + 1 := by omega
  simp only [e1] at HRC
  clear e1
  rw [hlkd] at HNX
  have hT' : ¬ (1024 : Int) < (T.size : Int) := by omega
  have hroom' : ¬ R < (T.size : Int) := by omega
  have HNQ := Lib.hid hN
  have HKQ := Lib.hid hK
  have HL := Lib.hid h
  have HD := Lib.hid hd
  have HNE := Lib.hid hne
  have K0 : Hid (∀ u, IsALog u lb l → u.cell? ⟨lb, 0, none⟩ = some (.pointer (some ⟨b, 0, none⟩)) ∧ u.cell? ⟨lb, 1, none⟩ = some (.int .i64 (f : Nat))) := fun u hu => ⟨hld ▸ hu.c0, hlf ▸ hu.c1⟩
  have HC3 := Lib.hid c3
  have HC4 := Lib.hid c4
  have HNs := Lib.hid hNs
  have HCAP := Lib.hid (And.intro hcp1 hcp2)
  have HPN := Lib.hid hpn
  have HV := Lib.hid hv
  rw [hK] at HCAP
  have hv1 := hv0
  rw [hK] at hv1
  have HV1 := Lib.hid hv1
  have hKn : K ≤ 16384 := by omega
  clear h hv hn hd hok hm hne hf hq hdl hlk hroom hr hNs c3 c4 hT hlf hld hcells hR hN hv0 hv1 hcp1 hcp2 hpn
  go_enter Tryz.func17, Tryz.ntmps17
  go_wp2_with fail
  refine HRM.out.mono ?_
  rintro e w1 ⟨rfl, hb1⟩
  have HB1 := Lib.hid hb1
  have x4 := HC4.out w1 hb1
  clear hb1 c5
  go_wp2_with fail
  refine (HNX.out _).mono ?_
  rintro e w2 ⟨rfl, hb2⟩
  have HB2 := Lib.hid (HB1.out.trans (hb2.mono HB1.out.size))
  have x3 := HC3.out w2 HB2.out
  clear hb2 x4
  go_wp2_with fail
  refine (HRC.out _).mono ?_
  rintro e w3 ⟨rfl, hb3⟩
  have HB3 := Lib.hid (HB2.out.trans (hb3.mono HB2.out.size))
  clear hb3 x3
  go_wp2_with fail
  refine wp_region_U 10 (fun u => u.cell? ⟨lb, 0, none⟩ = some (.pointer (some ⟨b, 0, none⟩)) ∧ u.cell? ⟨lb, 1, none⟩ = some (.int .i64 (f : Nat))) (by kernel_rfl) ?_
  change wpAnyU _ _ _ _ _ _ 11 (Array.replicate 11 false) _ _
  obtain ⟨w4, hw4⟩ : ∃ w4, w4 = w3.drew := ⟨_, rfl⟩
  rw [← hw4]
  have HB4 : Hid (Below w.heap.size w w4) := by unfold Hid; rw [hw4]; exact HB3.out.drew
  have HL4 := Lib.hid (HL.out.below HB4.out HL.out.lt)
  clear hw4
  have HS := Lib.hid (K0.out w4 HL4.out)
  refine takeU 0 (v := ?_) rfl (by kernel_rfl) (by kernel_rfl) (fun _ _ _ h => h) rfl (fun u hu => ?_) HS.out ?_
  rotate_left
  · obtain ⟨q0, q1⟩ := hu; go_simp <;> with_reducible rfl
  simp only [Act.put, List.setIfInBounds_toArray, List.set_cons_zero, List.set_cons_succ]
  refine takeU 1 (v := ?_) rfl (by kernel_rfl) (by kernel_rfl) (fun _ _ _ h => h) rfl (fun u hu => ?_) HS.out ?_
  rotate_left
  · obtain ⟨q0, q1⟩ := hu; go_simp <;> with_reducible rfl
  simp only [Act.put, List.setIfInBounds_toArray, List.set_cons_zero, List.set_cons_succ]
  refine takeU 2 (v := ?_) rfl (by kernel_rfl) (by kernel_rfl) (fun _ _ _ h => h) rfl (fun u hu => ?_) HS.out ?_
  rotate_left
  · obtain ⟨q0, q1⟩ := hu; go_simp <;> with_reducible rfl
  simp only [Act.put, List.setIfInBounds_toArray, List.set_cons_zero, List.set_cons_succ]
  refine takeU 3 (v := ?_) rfl (by kernel_rfl) (by kernel_rfl) (fun _ _ _ h => h) rfl (fun u hu => ?_) HS.out ?_
  rotate_left
  · obtain ⟨q0, q1⟩ := hu; go_simp <;> with_reducible rfl
  simp only [Act.put, List.setIfInBounds_toArray, List.set_cons_zero, List.set_cons_succ]
  refine takeU 4 (v := ?_) rfl (by kernel_rfl) (by kernel_rfl) (fun _ _ _ h => h) rfl (fun u hu => ?_) HS.out ?_
  rotate_left
  · obtain ⟨q0, q1⟩ := hu; go_simp <;> with_reducible rfl
  simp only [Act.put, List.setIfInBounds_toArray, List.set_cons_zero, List.set_cons_succ]
  refine takeU 5 (v := ?_) rfl (by kernel_rfl) (by kernel_rfl) (fun _ _ _ h => h) rfl (fun u hu => ?_) HS.out ?_
  rotate_left
  · obtain ⟨q0, q1⟩ := hu; go_simp <;> with_reducible rfl
  simp only [Act.put, List.setIfInBounds_toArray, List.set_cons_zero, List.set_cons_succ]
  refine takeU 6 (v := ?_) rfl (by kernel_rfl) (by kernel_rfl) (fun _ _ _ h => h) rfl (fun u hu => ?_) HS.out ?_
  rotate_left
  · obtain ⟨q0, q1⟩ := hu; go_simp <;> with_reducible rfl
  simp only [Act.put, List.setIfInBounds_toArray, List.set_cons_zero, List.set_cons_succ]
  refine takeU 7 (v := ?_) rfl (by kernel_rfl) (by kernel_rfl) (fun _ _ _ h => h) rfl (fun u hu => ?_) HS.out ?_
  rotate_left
  · obtain ⟨q0, q1⟩ := hu; go_simp <;> with_reducible rfl
  simp only [Act.put, List.setIfInBounds_toArray, List.set_cons_zero, List.set_cons_succ]
  refine takeU 8 (v := ?_) rfl (by kernel_rfl) (by kernel_rfl) (fun _ _ _ h => h) rfl (fun u hu => ?_) HS.out ?_
  rotate_left
  · obtain ⟨q0, q1⟩ := hu; go_simp <;> with_reducible rfl
  simp only [Act.put, List.setIfInBounds_toArray, List.set_cons_zero, List.set_cons_succ]
  refine oneU 9 (by kernel_rfl) ?_
  refine callU 9 rfl (by kernel_rfl) rfl 62 _ _ rfl #[.pointer (some ⟨b, 0, none⟩), .int .i64 (f : Nat), .string (recS (K + 1) (T ++ N))] (by simp [Act.eval]) (enters_of Tryz.func62 (by kernel_rfl) rfl) (fun v w' => v = .int .i64 2 ∧ Hid (IsDisk w' b g cap (D.writeX (f : Nat) (recS (K + 1) (T ++ N))).1 ∧ Chg (fun k => k = b ∨ k = g) w4 w')) ((HW.out _ HB4.out).mono fun e w' ⟨h1, h2, h3⟩ => ⟨_, h1, rfl, h2, h3⟩) ?_
  rintro v w5 ⟨rfl, hK⟩
  have HD5 := Lib.hid hK.out.1
  have HC5 := Lib.hid ((Chg.of_below (fun k => k = b ∨ k = g) HB4.out).trans hK.out.2)
  have HL5 := Lib.hid (HL.out.keep HC5.out (fun e => by have := HNE.out; omega))
  refine ⟨K0.out w5 HL5.out, ?_⟩
  simp only [Act.put, List.setIfInBounds_toArray, List.set_cons_zero, List.set_cons_succ]
  refine oneU 10 (by kernel_rfl) ?_
  refine endU (v := ?_) 10 rfl (by kernel_rfl) (by kernel_rfl) rfl ?_ ?_
  rotate_left
  · go_simp <;> with_reducible rfl
  simp only [Act.put, List.setIfInBounds_toArray, List.set_cons_zero, List.set_cons_succ]
  have y5 := HL5.out.c5
  have y5f := HL5.out.free 5
  go_wp2_with fail
  go_ret
  have hch : Chg (fun k => k = lb) w5 (w5.setCell ⟨lb, 5, none⟩ (.bool true)) := Chg.setCell (fun k => k = lb) w5 rfl _
  have hd8 := HD5.out.keep hch (fun e => HNE.out.1 e.symm) (fun e => HNE.out.2 e.symm) HL5.out.muts
  rw [HNQ.out, HKQ.out]
  exact ⟨rfl, HL5.out.setDead true, hd8, (HC5.out.mono (fun k _ h => .inr h)).trans (hch.mono (fun k _ h => .inl h))⟩
end Go.Proofs.YtilpbjcbffbjeaaGreatDoor
namespace Go.Proofs.YtilpbjcbffbjeaaGreatDoor
set_option linter.unusedVariables false
set_option maxRecDepth 100000
open Go.RowKit
set_option linter.unusedSectionVars false
variable [Avoid]
set_option maxHeartbeats 1600000 in
theorem asyncGone {w : World} {lb b g cap f : Nat} {l : ALog} {D : Dk} (h : IsALog w lb l) (hd : IsDisk w b g cap D) (hok : DOk D) (hne : lb ≠ b ∧ lb ≠ g) (hlf : l.f = (f : Nat)) (hld : l.d = ⟨b, 0, none⟩) (hdl : l.dead = false) (hr : (D.syncX (f : Nat)).2 = 2) :
    Calls Tryz.prog 18 #[.pointer (some ⟨lb, 0, none⟩)] w fun e w' => e = .returned (.int .i64 2) ∧ IsALog w' lb { l with dead := true } ∧ IsDisk w' b g cap (D.syncX (f : Nat)).1 ∧ Chg (fun k => k = lb ∨ k = b ∨ k = g) w w' := by
  have HW := Lib.hid (fun (w1 : World) (hb : Below w.heap.size w w1) => syncA (hd.below hb) hok (f : Nat))
  rw [hr] at HW
  have HL := Lib.hid h
  have HD0 := Lib.hid hd
  have HNE := Lib.hid hne
  have K0 : Hid (∀ u, IsALog u lb l → u.cell? ⟨lb, 5, none⟩ = some (.bool false) ∧ u.cell? ⟨lb, 0, none⟩ = some (.pointer (some ⟨b, 0, none⟩)) ∧ u.cell? ⟨lb, 1, none⟩ = some (.int .i64 (f : Nat))) := fun u hu => ⟨hdl ▸ hu.c5, hld ▸ hu.c0, hlf ▸ hu.c1⟩
  clear h hd hok hdl hr hne hlf hld
  go_enter Tryz.func18, Tryz.ntmps18
  go_wp2_with fail
  refine wp_region_U 15 (fun u => u.cell? ⟨lb, 5, none⟩ = some (.bool false) ∧ u.cell? ⟨lb, 0, none⟩ = some (.pointer (some ⟨b, 0, none⟩)) ∧ u.cell? ⟨lb, 1, none⟩ = some (.int .i64 (f : Nat))) (by kernel_rfl) ?_
  change wpAnyU _ _ _ _ _ _ 16 (Array.replicate 16 false) _ _
  obtain ⟨w2, hw2⟩ : ∃ w2, w2 = w.drew := ⟨_, rfl⟩
  rw [← hw2]
  have HL2 : Hid (IsALog w2 lb l) := by unfold Hid; rw [hw2]; exact HL.out.below (Below.refl _ _).drew HL.out.lt
  have HB2 : Hid (Below w.heap.size w w2) := by unfold Hid; rw [hw2]; exact (Below.refl _ _).drew
  clear hw2
  have HS := Lib.hid (K0.out w2 HL2.out)
  refine takeU 0 (v := ?_) rfl (by kernel_rfl) (by kernel_rfl) (fun _ _ _ h => h) rfl (fun u hu => ?_) HS.out ?_
  rotate_left
  · obtain ⟨q5, q0, q1⟩ := hu; go_simp <;> with_reducible rfl
  simp only [Act.put, List.setIfInBounds_toArray, List.set_cons_zero, List.set_cons_succ]
  refine takeU 1 (v := ?_) rfl (by kernel_rfl) (by kernel_rfl) (fun _ _ _ h => h) rfl (fun u hu => ?_) HS.out ?_
  rotate_left
  · obtain ⟨q5, q0, q1⟩ := hu; go_simp <;> with_reducible rfl
  simp only [Act.put, List.setIfInBounds_toArray, List.set_cons_zero, List.set_cons_succ]
  refine takeU 2 (v := ?_) rfl (by kernel_rfl) (by kernel_rfl) (fun _ _ _ h => h) rfl (fun u hu => ?_) HS.out ?_
  rotate_left
  · obtain ⟨q5, q0, q1⟩ := hu; go_simp <;> with_reducible rfl
  simp only [Act.put, List.setIfInBounds_toArray, List.set_cons_zero, List.set_cons_succ]
  refine takeU 3 (v := ?_) rfl (by kernel_rfl) (by kernel_rfl) (fun _ _ _ h => h) rfl (fun u hu => ?_) HS.out ?_
  rotate_left
  · obtain ⟨q5, q0, q1⟩ := hu; go_simp <;> with_reducible rfl
  simp only [Act.put, List.setIfInBounds_toArray, List.set_cons_zero, List.set_cons_succ]
  refine takeU 4 (v := ?_) rfl (by kernel_rfl) (by kernel_rfl) (fun _ _ _ h => h) rfl (fun u hu => ?_) HS.out ?_
  rotate_left
  · obtain ⟨q5, q0, q1⟩ := hu; go_simp <;> with_reducible rfl
  simp only [Act.put, List.setIfInBounds_toArray, List.set_cons_zero, List.set_cons_succ]
  refine takeU 5 (v := ?_) rfl (by kernel_rfl) (by kernel_rfl) (fun _ _ _ h => h) rfl (fun u hu => ?_) HS.out ?_
  rotate_left
  · obtain ⟨q5, q0, q1⟩ := hu; go_simp <;> with_reducible rfl
  simp only [Act.put, List.setIfInBounds_toArray, List.set_cons_zero, List.set_cons_succ]
  refine takeU 6 (v := ?_) rfl (by kernel_rfl) (by kernel_rfl) (fun _ _ _ h => h) rfl (fun u hu => ?_) HS.out ?_
  rotate_left
  · obtain ⟨q5, q0, q1⟩ := hu; go_simp <;> with_reducible rfl
  simp only [Act.put, List.setIfInBounds_toArray, List.set_cons_zero, List.set_cons_succ]
  refine takeU 7 (v := ?_) rfl (by kernel_rfl) (by kernel_rfl) (fun _ _ _ h => h) rfl (fun u hu => ?_) HS.out ?_
  rotate_left
  · obtain ⟨q5, q0, q1⟩ := hu; go_simp <;> with_reducible rfl
  simp only [Act.put, List.setIfInBounds_toArray, List.set_cons_zero, List.set_cons_succ]
  refine takeU 8 (v := ?_) rfl (by kernel_rfl) (by kernel_rfl) (fun _ _ _ h => h) rfl (fun u hu => ?_) HS.out ?_
  rotate_left
  · obtain ⟨q5, q0, q1⟩ := hu; go_simp <;> with_reducible rfl
  simp only [Act.put, List.setIfInBounds_toArray, List.set_cons_zero, List.set_cons_succ]
  refine takeU 9 (v := ?_) rfl (by kernel_rfl) (by kernel_rfl) (fun _ _ _ h => h) rfl (fun u hu => ?_) HS.out ?_
  rotate_left
  · obtain ⟨q5, q0, q1⟩ := hu; go_simp <;> with_reducible rfl
  simp only [Act.put, List.setIfInBounds_toArray, List.set_cons_zero, List.set_cons_succ]
  refine takeU 10 (v := ?_) rfl (by kernel_rfl) (by kernel_rfl) (fun _ _ _ h => h) rfl (fun u hu => ?_) HS.out ?_
  rotate_left
  · obtain ⟨q5, q0, q1⟩ := hu; go_simp <;> with_reducible rfl
  simp only [Act.put, List.setIfInBounds_toArray, List.set_cons_zero, List.set_cons_succ]
  refine takeU 11 (v := ?_) rfl (by kernel_rfl) (by kernel_rfl) (fun _ _ _ h => h) rfl (fun u hu => ?_) HS.out ?_
  rotate_left
  · obtain ⟨q5, q0, q1⟩ := hu; go_simp <;> with_reducible rfl
  simp only [Act.put, List.setIfInBounds_toArray, List.set_cons_zero, List.set_cons_succ]
  refine takeU 12 (v := ?_) rfl (by kernel_rfl) (by kernel_rfl) (fun _ _ _ h => h) rfl (fun u hu => ?_) HS.out ?_
  rotate_left
  · obtain ⟨q5, q0, q1⟩ := hu; go_simp <;> with_reducible rfl
  simp only [Act.put, List.setIfInBounds_toArray, List.set_cons_zero, List.set_cons_succ]
  refine oneU 13 (by kernel_rfl) ?_
  refine callU 13 rfl (by kernel_rfl) rfl 53 _ _ rfl #[.pointer (some ⟨b, 0, none⟩), .int .i64 (f : Nat)] (by simp [Act.eval]) (enters_of Tryz.func53 (by kernel_rfl) rfl) (fun v w' => v = .int .i64 2 ∧ Hid (IsDisk w' b g cap (D.syncX (f : Nat)).1 ∧ Chg (fun k => k = b ∨ k = g) w2 w')) ((HW.out _ HB2.out).mono fun e w' ⟨h1, h2, h3⟩ => ⟨_, h1, rfl, h2, h3⟩) ?_
  rintro v w3 ⟨rfl, hK⟩
  have HD3 := Lib.hid hK.out.1
  have HC3 := Lib.hid ((Chg.of_below (fun k => k = b ∨ k = g) HB2.out).trans hK.out.2)
  have HL3 := Lib.hid (HL.out.keep HC3.out (fun e => by have := HNE.out; omega))
  refine ⟨K0.out w3 HL3.out, ?_⟩
  simp only [Act.put, List.setIfInBounds_toArray, List.set_cons_zero, List.set_cons_succ]
  refine takeU 14 (v := ?_) rfl (by kernel_rfl) (by kernel_rfl) (fun _ _ _ h => h) rfl (fun u hu => ?_) (K0.out w3 HL3.out) ?_
  rotate_left
  · obtain ⟨q5, q0, q1⟩ := hu; go_simp <;> with_reducible rfl
  simp only [Act.put, List.setIfInBounds_toArray, List.set_cons_zero, List.set_cons_succ]
  refine oneU 15 (by kernel_rfl) ?_
  refine endU (v := ?_) 15 rfl (by kernel_rfl) (by kernel_rfl) rfl ?_ ?_
  rotate_left
  · go_simp <;> with_reducible rfl
  simp only [Act.put, List.setIfInBounds_toArray, List.set_cons_zero, List.set_cons_succ]
  have y5 := HL3.out.c5
  have y5f := HL3.out.free 5
  go_wp2_with fail
  go_ret
  have hch : Chg (fun k => k = lb) w3 (w3.setCell ⟨lb, 5, none⟩ (.bool true)) := Chg.setCell (fun k => k = lb) w3 rfl _
  have hd8 := HD3.out.keep hch (fun e => HNE.out.1 e.symm) (fun e => HNE.out.2 e.symm) HL3.out.muts
  exact ⟨rfl, HL3.out.setDead true, hd8, (HC3.out.mono (fun k _ h => .inr h)).trans (hch.mono (fun k _ h => .inl h))⟩
end Go.Proofs.YtilpbjcbffbjeaaGreatDoor
namespace Go.Proofs.YtilpbjcbffbjeaaGreatDoor
set_option linter.unusedVariables false
set_option maxRecDepth 100000
open Go.RowKit
set_option linter.unusedSectionVars false
variable [Avoid]
section
variable {w : World} {b g cap f : Nat} {D : Dk}
theorem aopenArg (f : Int) (quota : Int) (hq : quota < 0 ∨ 262144 < quota) (w : World) (v : Value) :
    Calls Tryz.prog 12 #[v, .int .i64 f, .int .i64 quota] w fun e w' => e = .returned (.tuple #[.pointer none, .int .i64 1]) ∧ w' = w := by
  by_cases h1 : quota < 0
  · clear hq
    go_enter Tryz.func12, Tryz.ntmps12
    go_wp2_with fail
    go_ret2
    exact ⟨rfl, rfl⟩
  · have h2 : (262144 : Int) < quota := by omega
    clear hq
    go_enter Tryz.func12, Tryz.ntmps12
    go_wp2_with fail
    go_ret2
    exact ⟨rfl, rfl⟩
theorem aopenSync (hd : IsDisk w b g cap D) (hok : DOk D) (hdd : D.dead = false) (hf : f < D.l.length) (quota : Int) (hq : 0 ≤ quota ∧ quota ≤ 262144) (D1 : Dk) (e1 : D.syncX (f : Nat) = (D1, 2)) :
    Calls Tryz.prog 12 #[.pointer (some ⟨b, 0, none⟩), .int .i64 (f : Nat), .int .i64 quota] w fun e w' => e = .returned (.tuple #[.pointer none, .int .i64 2]) ∧ IsDisk w' b g cap D1 ∧ Chg (fun k => k = b ∨ k = g) w w' := by
  have hn := hok.n
  have H1 := Lib.hid (deadW hd)
  rw [hdd] at H1
  have H2 := Lib.hid (sizeYes hd hok f hf)
  have H3 := Lib.hid (fun (w1 : World) (hb : Below w.heap.size w w1) => syncA (hd.below hb) hok (f : Nat))
  rw [e1] at H3
  obtain ⟨q1, q2⟩ := hq
  have q1' : ¬ quota < 0 := by omega
  have q2' : ¬ (262144 : Int) < quota := by omega
  obtain ⟨z, hz⟩ : ∃ z, z = (rd (D.l.getD f Fl.zero)).size := ⟨_, rfl⟩
  rw [← hz] at H2
  have z0 : ¬ ((z : Nat) : Int) < 0 := by omega
  clear hd hok hdd hf e1 q1 q2 hz hn
  go_enter Tryz.func12, Tryz.ntmps12
  go_wp2_with fail
  refine H1.out.mono ?_
  rintro e w1 ⟨rfl, hw⟩
  subst hw
  go_wp2_with fail
  refine H2.out.mono ?_
  rintro e w1 ⟨rfl, hb1⟩
  have HB1 := Lib.hid hb1
  clear hb1
  go_wp2_with fail
  refine (H3.out _ HB1.out).mono ?_
  rintro e w2 ⟨rfl, hd2, hc2⟩
  have HD2 := Lib.hid hd2
  have HC2 := Lib.hid ((Chg.of_below (fun k => k = b ∨ k = g) HB1.out).trans hc2)
  clear hd2 hc2 H1 H2 H3
  go_wp2_with fail
  go_ret2
  exact ⟨rfl, HD2.out, HC2.out⟩
set_option maxHeartbeats 1600000 in
theorem aopenCut (hd : IsDisk w b g cap D) (hok : DOk D) (hdd : D.dead = false) (hf : f < D.l.length) (quota : Int) (hq : 0 ≤ quota ∧ quota ≤ 262144) (D1 : Dk) (e1 : D.syncX (f : Nat) = (D1, 0)) (k1 : DOk D1) (al1 : D1.dead = false) (hl1 : D1.l.length = D.l.length)
    (hP : (∀ p ∈ scan (bs (rd (D1.l.getD f Fl.zero))), okP p) ∧ (au (scan (bs (rd (D1.l.getD f Fl.zero))))).2.2 = none) (D2 : Dk)
    (hcut : lens (scan (bs (rd (D1.l.getD f Fl.zero)))) < (rd (D1.l.getD f Fl.zero)).size → D1.cutX (f : Nat) ((lens (scan (bs (rd (D1.l.getD f Fl.zero)))) : Nat) : Int) = (D2, 0)) (hno : ¬ lens (scan (bs (rd (D1.l.getD f Fl.zero)))) < (rd (D1.l.getD f Fl.zero)).size → D2 = D1) :
    Calls Tryz.prog 12 #[.pointer (some ⟨b, 0, none⟩), .int .i64 (f : Nat), .int .i64 quota] w fun e w' => ∃ lb v, e = .returned (.tuple #[.pointer (some ⟨lb, 0, none⟩), .int .i64 0]) ∧ w.heap.size ≤ lb ∧ IsALog w' lb ⟨⟨b, 0, none⟩, (f : Nat), quota, v, strOf (au (scan (bs (rd (D1.l.getD f Fl.zero))))).1, false⟩ ∧ OwnsS w' w.heap.size v (txts (scan (bs (rd (D1.l.getD f Fl.zero))))) ∧ IsDisk w' b g cap D2 ∧ Chg (fun k => k = b ∨ k = g) w w' := by
  have HCUT : (lens (scan (bs (rd (D1.l.getD f Fl.zero)))) < (rd (D1.l.getD f Fl.zero)).size → D1.cutX (f : Nat) ((lens (scan (bs (rd (D1.l.getD f Fl.zero)))) : Nat) : Int) = (D2, 0)) ∧ (¬ lens (scan (bs (rd (D1.l.getD f Fl.zero)))) < (rd (D1.l.getD f Fl.zero)).size → D2 = D1) := ⟨hcut, hno⟩
  have hn := hok.n
  have H1 := Lib.hid (deadW hd)
  rw [hdd] at H1
  have H2 := Lib.hid (sizeYes hd hok f hf)
  have H3 := Lib.hid (fun (w1 : World) (hb : Below w.heap.size w w1) => syncA (hd.below hb) hok (f : Nat))
  rw [e1] at H3
  obtain ⟨q1, q2⟩ := hq
  have q1' : ¬ quota < 0 := by omega
  have q2' : ¬ (262144 : Int) < quota := by omega
  obtain ⟨z, hz⟩ : ∃ z, z = (rd (D.l.getD f Fl.zero)).size := ⟨_, rfl⟩
  rw [← hz] at H2
  have z0 : ¬ ((z : Nat) : Int) < 0 := by omega
  have hz1 := k1.size f (by omega)
  have H4 := Lib.hid (fun (w1 : World) (h : IsDisk w1 b g cap D1) => readA h k1 (f : Nat))
  rw [show D1.readX (f : Nat) = (rd (D1.l.getD f Fl.zero), 0) by unfold Dk.readX; rw [if_neg (by rw [al1]; exact Bool.false_ne_true), if_neg (by unfold Dk.out; simp; omega)]; rfl] at H4
  obtain ⟨s, hs⟩ : ∃ s, s = rd (D1.l.getD f Fl.zero) := ⟨_, rfl⟩
  rw [← hs] at H4 hz1 hP HCUT
  have H5 := Lib.hid (fun w => areadW s w (by omega))
  obtain ⟨P, hPP⟩ : ∃ P, P = scan (bs s) := ⟨_, rfl⟩
  have HRP : Hid (∀ w e w', ReadPost s w e w' → ∃ v, e = .returned (.tuple #[v, .string (strOf (au P).1), .int .i64 (lens P : Nat), .nilIface]) ∧ w'.ownsRow w.heap.size 9 1 v P.length (texts P) ∧ Below w.heap.size w w') := by
    unfold Hid
    intro w e w' h
    rw [hPP]
    rcases h with ⟨i, h1, _⟩ | ⟨v, _, h2, h3, _, h5⟩
    · exact absurd hP.1 h1
    · rw [hP.2] at h2; exact ⟨v, h2, h3, h5⟩
  rw [← hPP] at hP HCUT
  have HPP := Lib.hid hPP
  have hlP : lens P ≤ s.size := by rw [hPP, ← length_bs]; exact lens_scan _ (bs_lt s)
  obtain ⟨m, hm⟩ : ∃ m, m = lens P := ⟨_, rfl⟩
  rw [← hm] at HRP HCUT hlP
  have HM := Lib.hid hm
  have HQ := Lib.hid (HPP.out.trans (by rw [hs]))
  by_cases hlt : m < s.size
  · have H6 := Lib.hid (fun (w1 : World) (h : IsDisk w1 b g cap D1) => cutA h k1 (f : Nat) (m : Nat))
    rw [HCUT.1 hlt] at H6
    have hlt' : ((m : Nat) : Int) < (s.size : Int) := by omega
    clear hno
    clear hd hok hdd hf e1 q1 q2 hz hn k1 al1 hl1 hP hcut hs hPP hm hz1 HCUT
    go_enter Tryz.func12, Tryz.ntmps12
    go_wp2_with fail
    refine H1.out.mono ?_
    rintro e w1 ⟨rfl, hw⟩
    subst hw
    go_wp2_with fail
    refine H2.out.mono ?_
    rintro e w1 ⟨rfl, hb1⟩
    have HB1 := Lib.hid hb1
    clear hb1
    go_wp2_with fail
    refine (H3.out _ HB1.out).mono ?_
    rintro e w2 ⟨rfl, hd2, hc2⟩
    have HD2 := Lib.hid hd2
    have HC2 := Lib.hid ((Chg.of_below (fun k => k = b ∨ k = g) HB1.out).trans hc2)
    clear hd2 hc2 H1 H2 H3
    go_wp2_with fail
    refine (H4.out _ HD2.out).mono ?_
    rintro e w3 ⟨rfl, hb3⟩
    have HD3 := Lib.hid (HD2.out.below hb3)
    have HC3 := Lib.hid (HC2.out.trans (Chg.of_below (fun k => k = b ∨ k = g) hb3))
    clear hb3 H4 HD2 HC2
    go_wp2_with fail
    refine (H5.out _).mono ?_
    intro e w4 hp4
    obtain ⟨v4, rfl, hrow, hb4⟩ := HRP.out _ _ _ hp4
    have HD4 := Lib.hid (HD3.out.below hb4)
    have HC4 := Lib.hid (HC3.out.trans (Chg.of_below (fun k => k = b ∨ k = g) hb4))
    have HO4 := Lib.hid hrow
    obtain ⟨vp, vc, rfl⟩ := rowShape hrow
    have HS3 := Lib.hid HC3.out.size
    clear hp4 hrow hb4 H5 HRP HD3 HC3
    go_wp2_with fail
    refine (atoldNil _).mono ?_
    rintro e w5 ⟨rfl, hb5⟩
    have HD5 := Lib.hid (HD4.out.below hb5)
    have HC5 := Lib.hid (HC4.out.trans (Chg.of_below (fun k => k = b ∨ k = g) hb5))
    have HB5 := Lib.hid hb5
    clear hb5 HD4 HC4
    go_wp2_with fail
    refine (H6.out _ HD5.out).mono ?_
    rintro e w6 ⟨rfl, hd6, hc6⟩
    have HD6 := Lib.hid hd6
    have HC6 := Lib.hid (HC5.out.trans hc6)
    have HK6 := Lib.hid hc6
    clear hd6 hc6 H6
    go_wp2_with fail
    go_ret2
    have hb6 : Below w6.heap.size w6 (w6.alloc (.cells #[.pointer (some ⟨b, 0, none⟩), .int .i64 (f : Nat), .int .i64 quota, .slice vp P.length vc, .string (strOf (au P).1), .bool false] 111)) := (Below.refl _ _).alloc (Nat.le_refl _) _
    rw [← HQ.out]
    refine ⟨_, _, rfl, ?_, heap_alloc_new _ _, ?_, HD6.out.below hb6, HC6.out.trans (Chg.of_below _ hb6)⟩
    · exact HC6.out.size
    · have h0 : OwnsS w4 w3.heap.size (.slice vp P.length vc) (txts P) := by
        have h1 := HO4.out
        unfold texts at h1
        unfold OwnsS txts
        rw [List.map_map, List.length_map]
        exact h1
      exact (((h0.baseL HS3.out).kept HB5.out).keepM HK6.out HD5.out.muts).kept hb6
  · have hlt' : ¬ ((m : Nat) : Int) < (s.size : Int) := by omega
    have e2 := HCUT.2 hlt
    subst e2
    clear hno
    clear hd hok hdd hf e1 q1 q2 hz hn k1 al1 hl1 hP hcut hs hPP hm hz1 HCUT
    go_enter Tryz.func12, Tryz.ntmps12
    go_wp2_with fail
    refine H1.out.mono ?_
    rintro e w1 ⟨rfl, hw⟩
    subst hw
    go_wp2_with fail
    refine H2.out.mono ?_
    rintro e w1 ⟨rfl, hb1⟩
    have HB1 := Lib.hid hb1
    clear hb1
    go_wp2_with fail
    refine (H3.out _ HB1.out).mono ?_
    rintro e w2 ⟨rfl, hd2, hc2⟩
    have HD2 := Lib.hid hd2
    have HC2 := Lib.hid ((Chg.of_below (fun k => k = b ∨ k = g) HB1.out).trans hc2)
    clear hd2 hc2 H1 H2 H3
    go_wp2_with fail
    refine (H4.out _ HD2.out).mono ?_
    rintro e w3 ⟨rfl, hb3⟩
    have HD3 := Lib.hid (HD2.out.below hb3)
    have HC3 := Lib.hid (HC2.out.trans (Chg.of_below (fun k => k = b ∨ k = g) hb3))
    clear hb3 H4 HD2 HC2
    go_wp2_with fail
    refine (H5.out _).mono ?_
    intro e w4 hp4
    obtain ⟨v4, rfl, hrow, hb4⟩ := HRP.out _ _ _ hp4
    have HD4 := Lib.hid (HD3.out.below hb4)
    have HC4 := Lib.hid (HC3.out.trans (Chg.of_below (fun k => k = b ∨ k = g) hb4))
    have HO4 := Lib.hid hrow
    obtain ⟨vp, vc, rfl⟩ := rowShape hrow
    have HS3 := Lib.hid HC3.out.size
    clear hp4 hrow hb4 H5 HRP HD3 HC3
    go_wp2_with fail
    refine (atoldNil _).mono ?_
    rintro e w5 ⟨rfl, hb5⟩
    have HD5 := Lib.hid (HD4.out.below hb5)
    have HC5 := Lib.hid (HC4.out.trans (Chg.of_below (fun k => k = b ∨ k = g) hb5))
    have HB5 := Lib.hid hb5
    clear hb5 HD4 HC4
    go_wp2_with fail
    go_ret2
    have hb5 : Below w5.heap.size w5 (w5.alloc (.cells #[.pointer (some ⟨b, 0, none⟩), .int .i64 (f : Nat), .int .i64 quota, .slice vp P.length vc, .string (strOf (au P).1), .bool false] 111)) := (Below.refl _ _).alloc (Nat.le_refl _) _
    rw [← HQ.out]
    refine ⟨_, _, rfl, ?_, heap_alloc_new _ _, ?_, HD5.out.below hb5, HC5.out.trans (Chg.of_below _ hb5)⟩
    · exact HC5.out.size
    · have h0 : OwnsS w4 w3.heap.size (.slice vp P.length vc) (txts P) := by
        have h1 := HO4.out
        unfold texts at h1
        unfold OwnsS txts
        rw [List.map_map, List.length_map]
        exact h1
      exact ((h0.baseL HS3.out).kept HB5.out).kept hb5
set_option maxHeartbeats 1600000 in
theorem aopenGone (hd : IsDisk w b g cap D) (hok : DOk D) (hdd : D.dead = false) (hf : f < D.l.length) (quota : Int) (hq : 0 ≤ quota ∧ quota ≤ 262144) (D1 : Dk) (e1 : D.syncX (f : Nat) = (D1, 0)) (k1 : DOk D1) (al1 : D1.dead = false) (hl1 : D1.l.length = D.l.length)
    (hP : (∀ p ∈ scan (bs (rd (D1.l.getD f Fl.zero))), okP p) ∧ (au (scan (bs (rd (D1.l.getD f Fl.zero))))).2.2 = none) (D2 : Dk)
    (hcut : lens (scan (bs (rd (D1.l.getD f Fl.zero)))) < (rd (D1.l.getD f Fl.zero)).size) (hcut2 : D1.cutX (f : Nat) ((lens (scan (bs (rd (D1.l.getD f Fl.zero)))) : Nat) : Int) = (D2, 2)) :
    Calls Tryz.prog 12 #[.pointer (some ⟨b, 0, none⟩), .int .i64 (f : Nat), .int .i64 quota] w fun e w' => e = .returned (.tuple #[.pointer none, .int .i64 2]) ∧ IsDisk w' b g cap D2 ∧ Chg (fun k => k = b ∨ k = g) w w' := by
  have HCUT : lens (scan (bs (rd (D1.l.getD f Fl.zero)))) < (rd (D1.l.getD f Fl.zero)).size ∧ D1.cutX (f : Nat) ((lens (scan (bs (rd (D1.l.getD f Fl.zero)))) : Nat) : Int) = (D2, 2) := ⟨hcut, hcut2⟩
  have hn := hok.n
  have H1 := Lib.hid (deadW hd)
  rw [hdd] at H1
  have H2 := Lib.hid (sizeYes hd hok f hf)
  have H3 := Lib.hid (fun (w1 : World) (hb : Below w.heap.size w w1) => syncA (hd.below hb) hok (f : Nat))
  rw [e1] at H3
  obtain ⟨q1, q2⟩ := hq
  have q1' : ¬ quota < 0 := by omega
  have q2' : ¬ (262144 : Int) < quota := by omega
  obtain ⟨z, hz⟩ : ∃ z, z = (rd (D.l.getD f Fl.zero)).size := ⟨_, rfl⟩
  rw [← hz] at H2
  have z0 : ¬ ((z : Nat) : Int) < 0 := by omega
  have hz1 := k1.size f (by omega)
  have H4 := Lib.hid (fun (w1 : World) (h : IsDisk w1 b g cap D1) => readA h k1 (f : Nat))
  rw [show D1.readX (f : Nat) = (rd (D1.l.getD f Fl.zero), 0) by unfold Dk.readX; rw [if_neg (by rw [al1]; exact Bool.false_ne_true), if_neg (by unfold Dk.out; simp; omega)]; rfl] at H4
  obtain ⟨s, hs⟩ : ∃ s, s = rd (D1.l.getD f Fl.zero) := ⟨_, rfl⟩
  rw [← hs] at H4 hz1 hP HCUT
  have H5 := Lib.hid (fun w => areadW s w (by omega))
  obtain ⟨P, hPP⟩ : ∃ P, P = scan (bs s) := ⟨_, rfl⟩
  have HRP : Hid (∀ w e w', ReadPost s w e w' → ∃ v, e = .returned (.tuple #[v, .string (strOf (au P).1), .int .i64 (lens P : Nat), .nilIface]) ∧ w'.ownsRow w.heap.size 9 1 v P.length (texts P) ∧ Below w.heap.size w w') := by
    unfold Hid
    intro w e w' h
    rw [hPP]
    rcases h with ⟨i, h1, _⟩ | ⟨v, _, h2, h3, _, h5⟩
    · exact absurd hP.1 h1
    · rw [hP.2] at h2; exact ⟨v, h2, h3, h5⟩
  rw [← hPP] at hP HCUT
  have HPP := Lib.hid hPP
  have hlP : lens P ≤ s.size := by rw [hPP, ← length_bs]; exact lens_scan _ (bs_lt s)
  obtain ⟨m, hm⟩ : ∃ m, m = lens P := ⟨_, rfl⟩
  rw [← hm] at HRP HCUT hlP
  have HM := Lib.hid hm
  have H6 := Lib.hid (fun (w1 : World) (h : IsDisk w1 b g cap D1) => cutA h k1 (f : Nat) (m : Nat))
  rw [HCUT.2] at H6
  have hlt' : ((m : Nat) : Int) < (s.size : Int) := by have := HCUT.1; omega
  clear hcut2
  clear hd hok hdd hf e1 q1 q2 hz hn k1 al1 hl1 hP hcut hs hPP hm hz1 HCUT
  go_enter Tryz.func12, Tryz.ntmps12
  go_wp2_with fail
  refine H1.out.mono ?_
  rintro e w1 ⟨rfl, hw⟩
  subst hw
  go_wp2_with fail
  refine H2.out.mono ?_
  rintro e w1 ⟨rfl, hb1⟩
  have HB1 := Lib.hid hb1
  clear hb1
  go_wp2_with fail
  refine (H3.out _ HB1.out).mono ?_
  rintro e w2 ⟨rfl, hd2, hc2⟩
  have HD2 := Lib.hid hd2
  have HC2 := Lib.hid ((Chg.of_below (fun k => k = b ∨ k = g) HB1.out).trans hc2)
  clear hd2 hc2 H1 H2 H3
  go_wp2_with fail
  refine (H4.out _ HD2.out).mono ?_
  rintro e w3 ⟨rfl, hb3⟩
  have HD3 := Lib.hid (HD2.out.below hb3)
  have HC3 := Lib.hid (HC2.out.trans (Chg.of_below (fun k => k = b ∨ k = g) hb3))
  clear hb3 H4 HD2 HC2
  go_wp2_with fail
  refine (H5.out _).mono ?_
  intro e w4 hp4
  obtain ⟨v4, rfl, hrow, hb4⟩ := HRP.out _ _ _ hp4
  have HD4 := Lib.hid (HD3.out.below hb4)
  have HC4 := Lib.hid (HC3.out.trans (Chg.of_below (fun k => k = b ∨ k = g) hb4))
  have HO4 := Lib.hid hrow
  obtain ⟨vp, vc, rfl⟩ := rowShape hrow
  have HS3 := Lib.hid HC3.out.size
  clear hp4 hrow hb4 H5 HRP HD3 HC3
  go_wp2_with fail
  refine (atoldNil _).mono ?_
  rintro e w5 ⟨rfl, hb5⟩
  have HD5 := Lib.hid (HD4.out.below hb5)
  have HC5 := Lib.hid (HC4.out.trans (Chg.of_below (fun k => k = b ∨ k = g) hb5))
  have HB5 := Lib.hid hb5
  clear hb5 HD4 HC4
  go_wp2_with fail
  refine (H6.out _ HD5.out).mono ?_
  rintro e w6 ⟨rfl, hd6, hc6⟩
  have HD6 := Lib.hid hd6
  have HC6 := Lib.hid (HC5.out.trans hc6)
  clear hd6 hc6 H6
  go_wp2_with fail
  go_ret2
  exact ⟨rfl, HD6.out, HC6.out⟩
end
end Go.Proofs.YtilpbjcbffbjeaaGreatDoor
