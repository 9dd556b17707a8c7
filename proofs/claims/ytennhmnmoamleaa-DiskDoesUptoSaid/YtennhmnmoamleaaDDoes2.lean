/- The law's tells: two disks in one state show the same. -/
import Derived.Test.YtennhmnmoamleaaDDoes1
namespace Go.Proofs.Ytennhmnmoamleaa
set_option linter.unusedVariables false
open Go.RowKit
def Dk.sizeX (D : Dk) (f : Int) : Int := if D.out f = true then -1 else ((rd (D.l.getD f.toNat Fl.zero)).size : Nat)
def Dk.waitX (D : Dk) (f : Int) : Int := if D.out f = true then 0 else ((D.l.getD f.toNat Fl.zero).ws.length : Nat)
section
variable {B : Nat} {w0 w : World} {b g cap : Nat} {D : Dk}
theorem sizeA (h : IsDisk w b g cap D) (hok : DOk D) (f : Int) : Calls Try.prog 13 #[.pointer (some ⟨b, 0, none⟩), .int .i64 f] w fun e w' => e = .returned (.int .i64 (D.sizeX f)) ∧ Below w.heap.size w w' := by
  unfold Dk.sizeX
  by_cases ho : D.out f = true
  · rw [if_pos ho]
    exact (sizeNo h f (of_decide_eq_true ho)).mono fun _ _ => same_below
  · rw [if_neg ho]
    obtain ⟨n, rfl, hn⟩ := out_cases (show D.out f = false by simpa using ho)
    rw [Int.toNat_natCast]
    exact sizeYes h hok n hn
theorem rsizeA (h : IsR B w0 w b g cap D) (hok : DOk D) (f : Int) : Calls Try.prog 37 #[.pointer (some ⟨b, 0, none⟩), .int .i64 f] w fun e w' => e = .returned (.int .i64 (D.sizeX f)) ∧ Below w.heap.size w w' := by
  unfold Dk.sizeX
  by_cases ho : D.out f = true
  · rw [if_pos ho]
    exact (rsizeNo h f (of_decide_eq_true ho)).mono fun _ _ => same_below
  · rw [if_neg ho]
    obtain ⟨n, rfl, hn⟩ := out_cases (show D.out f = false by simpa using ho)
    rw [Int.toNat_natCast]
    exact rsizeYes h hok n hn
theorem waitA (h : IsDisk w b g cap D) (f : Int) : Calls Try.prog 14 #[.pointer (some ⟨b, 0, none⟩), .int .i64 f] w fun e w' => e = .returned (.int .i64 (D.waitX f)) ∧ w = w' := by
  unfold Dk.waitX
  by_cases ho : D.out f = true
  · rw [if_pos ho]
    exact waitingNo h f (of_decide_eq_true ho)
  · rw [if_neg ho]
    obtain ⟨n, rfl, hn⟩ := out_cases (show D.out f = false by simpa using ho)
    rw [Int.toNat_natCast]
    exact waitingYes h n hn
theorem rwaitA (h : IsR B w0 w b g cap D) (f : Int) : Calls Try.prog 38 #[.pointer (some ⟨b, 0, none⟩), .int .i64 f] w fun e w' => e = .returned (.int .i64 (D.waitX f)) ∧ w = w' := by
  unfold Dk.waitX
  by_cases ho : D.out f = true
  · rw [if_pos ho]
    exact rwaitNo h f (of_decide_eq_true ho)
  · rw [if_neg ho]
    obtain ⟨n, rfl, hn⟩ := out_cases (show D.out f = false by simpa using ho)
    rw [Int.toNat_natCast]
    exact rwaitYes h n hn
end
theorem OwnsS.setAt {w : World} {base X n c : Nat} {ss : List ByteArray} (h : OwnsS w base (.slice (some ⟨X, 0, none⟩) n c) ss) {i : Nat} (hi : i < ss.length) (s : ByteArray) :
    OwnsS (w.setCell ⟨X, i, none⟩ (.string s)) base (.slice (some ⟨X, 0, none⟩) n c) (ss.set i s) ∧ (∃ o, w.cell? ⟨X, i, none⟩ = some o) ∧ w.frozen? ⟨X, i, none⟩ = false ∧ base ≤ X := by
  rcases h.2 with ⟨hv, _⟩ | ⟨g, cap, cur, hv, hb, hg, h3, h4, h5, h6⟩
  · cases hv
  · have hX : X = g := by injection hv with e _ _; injection e with e; injection e
    subst hX
    have hsz : i < cur.size := by omega
    refine ⟨⟨by rw [List.length_map, List.length_set]; have := h.1; rw [List.length_map] at this; omega, .inr ⟨X, cap, cur.setIfInBounds i (.string s), by rw [List.length_set]; exact hv, hb, setCell_blk w X i _ hg, by rw [List.length_set]; exact h3, h4, by rw [Array.size_setIfInBounds]; exact h5, ?_⟩⟩, ⟨cur[i], ?_⟩, frozen_of_row w X i cur _ hg, hb⟩
    · rw [List.length_set, Array.toList_setIfInBounds, List.take_set, h6, List.map_set]
    · rw [cell_of_row w X i cur _ _ hg, Array.getElem?_eq_getElem hsz]
set_option maxRecDepth 100000 in
set_option maxHeartbeats 1600000 in
theorem tellsW {B : Nat} {w0 w : World} {b g r : Nat} {D : Dk} (h : Duo B w0 w b g r D) (hok : DOk D) :
    Calls Try.prog 11 #[.pointer (some ⟨b, 0, none⟩), .pointer (some ⟨r, 0, none⟩)] w fun e w' => e = .returned (.bool true) ∧ Below w.heap.size w w' := by
  obtain ⟨cap, hp⟩ := h.p
  obtain ⟨g', cap', hq⟩ := h.q
  have HP := Lib.hid hp
  have HQ := Lib.hid hq
  have HOK := Lib.hid hok
  have HF := Lib.hid (filesW hp hok)
  have hn := hok.n
  obtain ⟨⟨v0, c0, hrf⟩, _, _, c3⟩ := hq.cells
  have hfm := hrf.form
  subst hfm
  have hrl := hq.lt
  have h2 := hrf.len
  have h3 := hrf.capm
  unfold maxLen at h3
  have HC0 := Lib.hid c0
  have HC3 := Lib.hid c3
  clear h hp hq hok hrf c0 c3
  go_enter Try.func11, Try.ntmps11
  go_wp2_with fail
  refine HF.out.mono ?_
  rintro e w1 ⟨v, rfl, ho, hb⟩
  obtain ⟨p, c, rfl, _⟩ := ho.ws.form
  have HO := Lib.hid ho
  have HB := Lib.hid hb
  have hs1 := hb.size
  rw [length_files]
  have KK : Hid (∀ u, Below w1.heap.size w1 u → u.cell? ⟨r, 0, none⟩ = some (.slice (some ⟨g', 0, none⟩) D.l.length cap') ∧ u.cell? ⟨r, 3, none⟩ = some (.bool D.dead)) := fun u hu =>
    ⟨(hu.cell (p := ⟨r, 0, none⟩) (by show r < _; omega)).trans ((hb.cell (p := ⟨r, 0, none⟩) hrl).trans HC0.out), (hu.cell (p := ⟨r, 3, none⟩) (by show r < _; omega)).trans ((hb.cell (p := ⟨r, 3, none⟩) hrl).trans HC3.out)⟩
  clear ho hb HF
  go_wp2_with fail
  have HB2 : Hid (Below w1.heap.size w1 w1.drew) := (Below.refl _ _).drew
  refine wp_region_U 23 (fun u => Below w1.heap.size w1 u) (by kernel_rfl) ?_
  change wpAnyU _ _ _ _ _ _ 24 (Array.replicate 24 false) _ _
  obtain ⟨w2, hw2⟩ : ∃ w2, w2 = w1.drew := ⟨_, rfl⟩
  rw [← hw2]
  rw [← hw2] at HB2
  clear hw2
  refine takeU 0 (v := ?_) rfl (by kernel_rfl) (by kernel_rfl) (fun _ _ _ h => h) rfl (fun u hu => ?_) HB2.out ?_
  rotate_left
  · skip; go_simp <;> with_reducible rfl
  simp only [Act.put, List.setIfInBounds_toArray, List.set_cons_zero, List.set_cons_succ]
  refine takeU 1 (v := ?_) rfl (by kernel_rfl) (by kernel_rfl) (fun _ _ _ h => h) rfl (fun u hu => ?_) HB2.out ?_
  rotate_left
  · skip; go_simp <;> with_reducible rfl
  simp only [Act.put, List.setIfInBounds_toArray, List.set_cons_zero, List.set_cons_succ]
  refine oneU 2 (by kernel_rfl) ?_
  refine callU 2 rfl (by kernel_rfl) rfl 36 _ _ rfl #[.pointer (some ⟨r, 0, none⟩)] (by simp [Act.eval]) (enters_of Try.func36 (by kernel_rfl) rfl) (fun v w' => ∃ q d, v = .slice q D.l.length d ∧ Hid (Strs w' v D.files ∧ Below w2.heap.size w2 w')) ((rfilesW (HQ.out.grow (HB.out.trans (HB2.out.mono HB.out.size))) HOK.out).mono fun e w' ⟨v, h1, h2, h3⟩ => ⟨v, h1, by obtain ⟨q, d, hv, _⟩ := h2.ws.form; rw [length_files] at hv; exact ⟨q, d, hv, h2.ws.strs, h3⟩⟩) ?_
  rintro v3 w3 ⟨q3, d3, rfl, hh⟩
  have HB3 := Lib.hid (HB2.out.trans (hh.out.2.mono HB2.out.size))
  have HS3 := Lib.hid hh.out.1
  clear hh
  refine ⟨HB3.out, ?_⟩
  simp only [Act.put, List.setIfInBounds_toArray, List.set_cons_zero, List.set_cons_succ]
  refine oneU 3 (by kernel_rfl) ?_
  refine callU 3 rfl (by kernel_rfl) rfl 33 _ _ rfl #[.slice p D.l.length c, .slice q3 D.l.length d3] (by simp [Act.eval]) (enters_of Try.func33 (by kernel_rfl) rfl) (fun v w' => v = .bool true ∧ Hid (Below w3.heap.size w3 w')) ((sameW (.slice p D.l.length c) (.slice q3 D.l.length d3) D.files D.files w3 (by have := (HO.out.ws.below HB3.out).strs; rw [length_files] at this; exact this) HS3.out (by rw [length_files]; omega) (by rw [length_files]; omega)).mono fun e w' ⟨h1, h2⟩ => ⟨_, h1, by rw [decide_eq_true rfl], h2⟩) ?_
  rintro v4 w4 ⟨rfl, hh⟩
  have HB4 := Lib.hid (HB3.out.trans (hh.out.mono HB3.out.size))
  clear hh
  refine ⟨HB4.out, ?_⟩
  simp only [Act.put, List.setIfInBounds_toArray, List.set_cons_zero, List.set_cons_succ]
  refine takeU 4 (v := ?_) rfl (by kernel_rfl) (by kernel_rfl) (fun _ _ _ h => h) rfl (fun u hu => ?_) HB4.out ?_
  rotate_left
  · have k0 := (KK.out u hu).1; have k1 := (KK.out u hu).2; go_simp <;> with_reducible rfl
  simp only [Act.put, List.setIfInBounds_toArray, List.set_cons_zero, List.set_cons_succ]
  refine takeU 5 (v := ?_) rfl (by kernel_rfl) (by kernel_rfl) (fun _ _ _ h => h) rfl (fun u hu => ?_) HB4.out ?_
  rotate_left
  · have k0 := (KK.out u hu).1; have k1 := (KK.out u hu).2; go_simp <;> with_reducible rfl
  simp only [Act.put, List.setIfInBounds_toArray, List.set_cons_zero, List.set_cons_succ]
  refine takeU 7 (v := ?_) rfl (by kernel_rfl) (by kernel_rfl) (fun _ _ _ h => h) rfl (fun u hu => ?_) HB4.out ?_
  rotate_left
  · have k0 := (KK.out u hu).1; have k1 := (KK.out u hu).2; go_simp <;> with_reducible rfl
  simp only [Act.put, List.setIfInBounds_toArray, List.set_cons_zero, List.set_cons_succ]
  refine takeU 8 (v := ?_) rfl (by kernel_rfl) (by kernel_rfl) (fun _ _ _ h => h) rfl (fun u hu => ?_) HB4.out ?_
  rotate_left
  · have k0 := (KK.out u hu).1; have k1 := (KK.out u hu).2; go_simp <;> with_reducible rfl
  simp only [Act.put, List.setIfInBounds_toArray, List.set_cons_zero, List.set_cons_succ]
  refine takeU 9 (v := ?_) rfl (by kernel_rfl) (by kernel_rfl) (fun _ _ _ h => h) rfl (fun u hu => ?_) HB4.out ?_
  rotate_left
  · have k0 := (KK.out u hu).1; have k1 := (KK.out u hu).2; go_simp <;> with_reducible rfl
  simp only [Act.put, List.setIfInBounds_toArray, List.set_cons_zero, List.set_cons_succ]
  refine takeU 10 (v := ?_) rfl (by kernel_rfl) (by kernel_rfl) (fun _ _ _ h => h) rfl (fun u hu => ?_) HB4.out ?_
  rotate_left
  · have k0 := (KK.out u hu).1; have k1 := (KK.out u hu).2; go_simp <;> with_reducible rfl
  simp only [Act.put, List.setIfInBounds_toArray, List.set_cons_zero, List.set_cons_succ]
  refine takeU 11 (v := ?_) rfl (by kernel_rfl) (by kernel_rfl) (fun _ _ _ h => h) rfl (fun u hu => ?_) HB4.out ?_
  rotate_left
  · have k0 := (KK.out u hu).1; have k1 := (KK.out u hu).2; go_simp <;> with_reducible rfl
  simp only [Act.put, List.setIfInBounds_toArray, List.set_cons_zero, List.set_cons_succ]
  refine oneU 6 (by kernel_rfl) ?_
  refine callU 6 rfl (by kernel_rfl) rfl 23 _ _ rfl #[.pointer (some ⟨b, 0, none⟩)] (by simp [Act.eval]) (enters_of Try.func23 (by kernel_rfl) rfl) (fun v w' => v = .int .i64 (D.l.length : Nat) ∧ w4 = w') ((countW (HP.out.below (HB.out.trans (HB4.out.mono HB.out.size)))).mono fun e w' ⟨h1, h2⟩ => ⟨_, h1, rfl, h2⟩) ?_
  rintro v5 w5 ⟨rfl, rfl⟩
  refine ⟨HB4.out, ?_⟩
  simp only [Act.put, List.setIfInBounds_toArray, List.set_cons_zero, List.set_cons_succ]
  refine takeU 12 (v := ?_) rfl (by kernel_rfl) (by kernel_rfl) (fun _ _ _ h => h) rfl (fun u hu => ?_) HB4.out ?_
  rotate_left
  · have k0 := (KK.out u hu).1; have k1 := (KK.out u hu).2; go_simp <;> with_reducible rfl
  simp only [Act.put, List.setIfInBounds_toArray, List.set_cons_zero, List.set_cons_succ]
  refine takeU 13 (v := ?_) rfl (by kernel_rfl) (by kernel_rfl) (fun _ _ _ h => h) rfl (fun u hu => ?_) HB4.out ?_
  rotate_left
  · have k0 := (KK.out u hu).1; have k1 := (KK.out u hu).2; go_simp <;> with_reducible rfl
  simp only [Act.put, List.setIfInBounds_toArray, List.set_cons_zero, List.set_cons_succ]
  refine takeU 14 (v := ?_) rfl (by kernel_rfl) (by kernel_rfl) (fun _ _ _ h => h) rfl (fun u hu => ?_) HB4.out ?_
  rotate_left
  · have k0 := (KK.out u hu).1; have k1 := (KK.out u hu).2; go_simp <;> with_reducible rfl
  simp only [Act.put, List.setIfInBounds_toArray, List.set_cons_zero, List.set_cons_succ]
  refine takeU 15 (v := ?_) rfl (by kernel_rfl) (by kernel_rfl) (fun _ _ _ h => h) rfl (fun u hu => ?_) HB4.out ?_
  rotate_left
  · have k0 := (KK.out u hu).1; have k1 := (KK.out u hu).2; go_simp <;> with_reducible rfl
  simp only [Act.put, List.setIfInBounds_toArray, List.set_cons_zero, List.set_cons_succ]
  refine takeU 17 (v := ?_) rfl (by kernel_rfl) (by kernel_rfl) (fun _ _ _ h => h) rfl (fun u hu => ?_) HB4.out ?_
  rotate_left
  · have k0 := (KK.out u hu).1; have k1 := (KK.out u hu).2; go_simp <;> with_reducible rfl
  simp only [Act.put, List.setIfInBounds_toArray, List.set_cons_zero, List.set_cons_succ]
  refine takeU 18 (v := ?_) rfl (by kernel_rfl) (by kernel_rfl) (fun _ _ _ h => h) rfl (fun u hu => ?_) HB4.out ?_
  rotate_left
  · have k0 := (KK.out u hu).1; have k1 := (KK.out u hu).2; go_simp <;> with_reducible rfl
  simp only [Act.put, List.setIfInBounds_toArray, List.set_cons_zero, List.set_cons_succ]
  refine takeU 19 (v := ?_) rfl (by kernel_rfl) (by kernel_rfl) (fun _ _ _ h => h) rfl (fun u hu => ?_) HB4.out ?_
  rotate_left
  · have k0 := (KK.out u hu).1; have k1 := (KK.out u hu).2; go_simp <;> with_reducible rfl
  simp only [Act.put, List.setIfInBounds_toArray, List.set_cons_zero, List.set_cons_succ]
  refine takeU 20 (v := ?_) rfl (by kernel_rfl) (by kernel_rfl) (fun _ _ _ h => h) rfl (fun u hu => ?_) HB4.out ?_
  rotate_left
  · have k0 := (KK.out u hu).1; have k1 := (KK.out u hu).2; go_simp <;> with_reducible rfl
  simp only [Act.put, List.setIfInBounds_toArray, List.set_cons_zero, List.set_cons_succ]
  refine oneU 16 (by kernel_rfl) ?_
  refine callU 16 rfl (by kernel_rfl) rfl 22 _ _ rfl #[.pointer (some ⟨b, 0, none⟩)] (by simp [Act.eval]) (enters_of Try.func22 (by kernel_rfl) rfl) (fun v w' => v = .bool D.dead ∧ w4 = w') ((deadW (HP.out.below (HB.out.trans (HB4.out.mono HB.out.size)))).mono fun e w' ⟨h1, h2⟩ => ⟨_, h1, rfl, h2⟩) ?_
  rintro v6 w6 ⟨rfl, rfl⟩
  refine ⟨HB4.out, ?_⟩
  simp only [Act.put, List.setIfInBounds_toArray, List.set_cons_zero, List.set_cons_succ]
  refine takeU 21 (v := ?_) rfl (by kernel_rfl) (by kernel_rfl) (fun _ _ _ h => h) rfl (fun u hu => ?_) HB4.out ?_
  rotate_left
  · skip; go_simp <;> with_reducible rfl
  simp only [Act.put, List.setIfInBounds_toArray, List.set_cons_zero, List.set_cons_succ]
  refine takeU 22 (v := ?_) rfl (by kernel_rfl) (by kernel_rfl) (fun _ _ _ h => h) rfl (fun u hu => ?_) HB4.out ?_
  rotate_left
  · skip; go_simp <;> with_reducible rfl
  simp only [Act.put, List.setIfInBounds_toArray, List.set_cons_zero, List.set_cons_succ]
  refine oneU 23 (by kernel_rfl) ?_
  refine endU (v := ?_) 23 rfl (by kernel_rfl) (by kernel_rfl) rfl ?_ ?_
  rotate_left
  · go_simp <;> with_reducible rfl
  simp only [Act.put, List.setIfInBounds_toArray, List.set_cons_zero, List.set_cons_succ]
  have hO4 := World.ownsRow.kept (row := none) HO.out ⟨HB4.out.os, HB4.out.tape, HB4.out.output, HB4.out.size, fun k hk _ => HB4.out.block k hk⟩ (by cases hv : (Value.slice p D.files.length c).ownBlock <;> simp)
  have HO4 : Hid (OwnsS w4 w.heap.size (.slice p D.l.length c) D.files) := by
    have := hO4
    rw [length_files] at this
    unfold Hid OwnsS
    rw [length_files]
    exact this
  have HBW := Lib.hid (HB.out.trans (HB4.out.mono HB.out.size))
  clear hO4 HS3 HB2 HB3 HO KK HB4 HC0 HC3
  go_wp2_with fail
  go_loopw [7] (fun vi wr => ∃ (i : Nat) (ss : List ByteArray), i ≤ D.l.length ∧ vi = .int .i64 (i : Nat) ∧ ss.length = D.l.length ∧ OwnsS wr w.heap.size (.slice p D.l.length c) ss ∧ Below w.heap.size w wr) (fun vi _ => (D.l.length - intOf vi).toNat)
  case atStart => exact ⟨0, D.files, by omega, rfl, length_files D, HO4.out, HBW.out⟩
  case round =>
    obtain ⟨i, ss, hi, rfl, hl, ho, hb⟩ := hrel
    have HO5 := Lib.hid ho
    have HB5 := Lib.hid hb
    by_cases hlt : i < D.l.length
    · obtain ⟨X, rfl⟩ : ∃ X, p = some ⟨X, 0, none⟩ := by
        rcases ho.2 with ⟨hv, _⟩ | ⟨X, c1, _, hv, _⟩
        · injection hv with _ h2 _; omega
        · injection hv with h1 _ _; exact ⟨X, h1⟩
      obtain ⟨s1, ⟨o, s2⟩, s3, s4⟩ := ho.setAt (i := i) (by omega) ⟨#[111, 118, 101, 114]⟩
      have R := Lib.hid (And.intro hl (And.intro s1 (hb.setCell (p := ⟨X, i, none⟩) s4 (.string ⟨#[111, 118, 101, 114]⟩))))
      clear hl ho hb s1
      go_wp2_with fail
      exact ⟨⟨i + 1, _, by omega, rfl, by rw [List.length_set]; exact R.out.1, R.out.2.1, R.out.2.2⟩, by simp [intOf]; omega⟩
    · clear hl ho hb
      go_wp2_with fail
      go_loopw [6, 8] (fun vs vf wq => ∃ k : Nat, k ≤ D.l.length + 2 ∧ vs = .bool true ∧ vf = .int .i64 ((k : Int) - 1) ∧ Below w.heap.size w wq) (fun _ vf _ => (D.l.length + 1 - intOf vf).toNat)
      case atStart => exact ⟨0, by omega, rfl, rfl, HB5.out⟩
      case round =>
        obtain ⟨k, hk, rfl, rfl, hbq⟩ := hrel
        have HBQ := Lib.hid hbq
        have k0 := ((HQ.out.grow hbq).cells).1
        obtain ⟨v0, k0, hrf⟩ := k0
        have hfm := hrf.form
        have HD := Lib.hid (HP.out.below hbq)
        have HR := Lib.hid (HQ.out.grow hbq)
        obtain ⟨F, hF⟩ : ∃ F : Int, F = (k : Int) - 1 := ⟨_, rfl⟩
        have hfk : F + 1 = (k : Int) := by omega
        rw [← hF]
        subst hfm
        have HF := Lib.hid hF
        have HS := Lib.hid (sizeA HD.out HOK.out F)
        clear hbq hrf hF
        by_cases hlt2 : F ≤ (D.l.length : Int)
        · have hfk1 : (-1 : Int) ≤ F := by omega
          go_wp2_with fail
          refine HS.out.mono ?_
          rintro e w5 ⟨rfl, hb5⟩
          have HR5 := Lib.hid (rsizeA (HR.out.grow hb5) HOK.out F)
          have HB5x := Lib.hid hb5
          clear hb5 HS k0
          go_wp2_with fail
          refine HR5.out.mono ?_
          rintro e w6 ⟨rfl, hb6⟩
          have hb56 := HB5x.out.trans (hb6.mono HB5x.out.size)
          have HD6 := Lib.hid (HD.out.below hb56)
          have HR6 := Lib.hid (HR.out.grow hb56)
          have HB6 := Lib.hid (HBQ.out.trans (hb56.mono HBQ.out.size))
          clear hb6 hb56 HR5 HB5x
          go_wp2_with fail
          refine (waitA HD6.out F).mono ?_
          rintro e w7 ⟨rfl, rfl⟩
          go_wp2_with fail
          refine (rwaitA HR6.out F).mono ?_
          rintro e w7 ⟨rfl, rfl⟩
          have HFK := Lib.hid hfk
          clear hfk
          go_wp2_with fail
          exact ⟨⟨k + 1, by have := HF.out; omega, rfl, by have := HF.out; rw [this]; go_num, HB6.out⟩, by have := HF.out; simp [intOf]; omega⟩
        · go_wp2_with fail
          go_ret
          exact ⟨rfl, HBQ.out⟩
end Go.Proofs.Ytennhmnmoamleaa
