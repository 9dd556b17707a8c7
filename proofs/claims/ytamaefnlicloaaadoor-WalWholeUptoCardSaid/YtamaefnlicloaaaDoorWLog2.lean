/- The log's write, Sync, Append where the disk lives; Dead, Clone. -/
import Derived.Test.YtamaefnlicloaaaDoorWLog
import Derived.Test.YtamaefnlicloaaaDoorRU
namespace Go.Proofs.YtamaefnlicloaaaDoor
set_option linter.unusedVariables false
set_option maxRecDepth 100000
open Go.RowKit
section
variable {S : Nat → Prop} {w w' : World} {lb b g cap : Nat} {L : Lg} {D : Dk}
theorem deadLW (h : IsLog w lb b L) : Calls Tryd.prog 26 #[.pointer (some ⟨lb, 0, none⟩)] w fun e w' => e = .returned (.bool L.dead) ∧ w' = w := by
  have h4 := h.c5
  clear h
  go_enter Tryd.func26, Tryd.ntmps26
  go_wp2_with fail
  go_ret
  exact ⟨rfl, rfl⟩
set_option maxHeartbeats 800000 in
theorem writeLOk (h : IsLog w lb b L) (hd : IsDisk w b g cap D) (hok : DOk D) (f n : Nat) (p : ByteArray) (h1 : 1 ≤ n) (h2 : n ≤ 1099511627776) (hp : p.size ≤ 16384)
    (hm : ∀ f, f < D.l.length → (D.l.getD f Fl.zero).ws.length < 1099511627776) (hr : (D.writeX (f : Nat) (recS n p)).2 = 0) :
    Calls Tryd.prog 41 #[.pointer (some ⟨lb, 0, none⟩), .int .i64 (f : Nat), .int .i64 (n : Nat), .string p] w fun e w' => e = .returned .nilIface ∧ IsDisk w' b g cap (D.writeX (f : Nat) (recS n p)).1 ∧ Chg (fun k => k = b ∨ k = g) w w' := by
  have HR := Lib.hid (recordW n p w h1 h2 hp)
  have HW := Lib.hid (fun (w1 : World) (hb : Below w.heap.size w w1) => writeA (hd.below hb) hok (f : Nat) (recS n p) (by rw [size_recS]; omega) hm)
  rw [hr] at HW
  have HL := Lib.hid h
  clear hd hok hm hr h h1 h2
  go_enter Tryd.func41, Tryd.ntmps41
  go_wp2_with fail
  refine HR.out.mono ?_
  rintro e w1 ⟨rfl, hb⟩
  have c0 := (HL.out.below hb).c0
  have HB := Lib.hid hb
  clear hb
  go_wp2_with fail
  refine (HW.out _ HB.out).mono ?_
  rintro e w2 ⟨rfl, hd2, hc2⟩
  have HD := Lib.hid hd2
  have HC := Lib.hid ((Chg.of_below _ HB.out).trans hc2)
  clear hd2 hc2 c0
  go_wp2_with fail
  refine (stepOk _ _).mono ?_
  rintro e w3 ⟨rfl, rfl⟩
  go_wp2_with fail
  go_ret
  exact ⟨rfl, HD.out, HC.out⟩
theorem room_ge {z n m : Nat} (h : ¬ roomZ z n < (m : Int)) : z + 19 + m ≤ 262144 ∧ n < 1099511627776 ∧ m ≤ 16384 := by
  unfold roomZ at h
  by_cases h1 : 262125 < z ∨ 1099511627776 ≤ n
  · rw [if_pos h1] at h; omega
  · rw [if_neg h1] at h; omega
set_option maxHeartbeats 800000 in
theorem appendLong (h : IsLog w lb b L) (s : ByteArray) (hdl : L.dead = false) (hs : 16384 < s.size) :
    Calls Tryd.prog 19 #[.pointer (some ⟨lb, 0, none⟩), .string s] w fun e w' => e = .returned (.int .i64 171) ∧ w' = w := by
  have c5 := h.c5
  rw [hdl] at c5
  clear h hdl
  go_enter Tryd.func19, Tryd.ntmps19
  go_wp2_with fail
  go_ret
  exact ⟨rfl, rfl⟩
set_option maxHeartbeats 800000 in
theorem appendFull (h : IsLog w lb b L) (hd : IsDisk w b g cap D) (hok : DOk D) (s : ByteArray) (hdl : L.dead = false) (hs : s.size ≤ 16384) (hc : L.counts < D.l.length) (hr : roomZ (rd (D.l.getD L.counts Fl.zero)).size L.n < (s.size : Int)) :
    Calls Tryd.prog 19 #[.pointer (some ⟨lb, 0, none⟩), .string s] w fun e w' => e = .returned (.int .i64 172) ∧ Below w.heap.size w w' := by
  have c5 := h.c5
  have HR := Lib.hid (roomW h hd hok hc)
  rw [hdl] at c5
  obtain ⟨z, hz⟩ : ∃ z, z = roomZ (rd (D.l.getD L.counts Fl.zero)).size L.n := ⟨_, rfl⟩
  rw [← hz] at HR hr
  clear h hdl hd hok hc hz
  go_enter Tryd.func19, Tryd.ntmps19
  go_wp2_with fail
  refine HR.out.mono ?_
  rintro e w1 ⟨rfl, hb⟩
  go_wp2_with fail
  go_ret
  exact ⟨rfl, hb⟩
set_option maxHeartbeats 1600000 in
theorem appendOk (h : IsLog w lb b L) (hd : IsDisk w b g cap D) (hok : DOk D) (s : ByteArray) (hdl : L.dead = false) (hs : s.size ≤ 16384) (hc : L.counts < D.l.length) (hrm : ¬ roomZ (rd (D.l.getD L.counts Fl.zero)).size L.n < (s.size : Int))
    (hm : ∀ f, f < D.l.length → (D.l.getD f Fl.zero).ws.length < 1099511627776) (hr : (D.writeX (L.counts : Nat) (recS (L.n + 1) s)).2 = 0) :
    Calls Tryd.prog 19 #[.pointer (some ⟨lb, 0, none⟩), .string s] w fun e w' => e = .returned (.int .i64 0) ∧ IsLog w' lb b { L with n := L.n + 1 } ∧ IsDisk w' b g cap (D.writeX (L.counts : Nat) (recS (L.n + 1) s)).1 ∧ Chg (fun k => k = lb ∨ k = b ∨ k = g) w w' := by
  have c5 := h.c5
  have HR := Lib.hid (roomW h hd hok hc)
  have hrg := room_ge hrm
  have HW := Lib.hid (fun (w1 : World) (hb : Below w.heap.size w w1) => writeLOk (h.below hb) (hd.below hb) hok L.counts (L.n + 1) s (by omega) (by omega) hs hm hr)
  have HL := Lib.hid h
  have HD0 := Lib.hid hd
  have hn := hok.n
  rw [hdl] at c5
  obtain ⟨z, hz⟩ : ∃ z, z = roomZ (rd (D.l.getD L.counts Fl.zero)).size L.n := ⟨_, rfl⟩
  rw [← hz] at HR hrm
  clear h hdl hd hok hm hr hz
  go_enter Tryd.func19, Tryd.ntmps19
  go_wp2_with fail
  refine HR.out.mono ?_
  rintro e w1 ⟨rfl, hb⟩
  have HL1 := Lib.hid (HL.out.below hb)
  have HB := Lib.hid hb
  clear hb c5
  go_wp2_with fail
  refine wp_region_U 14 (fun u => u.cell? ⟨lb, 2, none⟩ = some (.int .i64 (L.counts : Nat)) ∧ u.cell? ⟨lb, 4, none⟩ = some (.int .i64 (L.n : Nat))) (by kernel_rfl) ?_
  change wpAnyU _ _ _ _ _ _ 15 (Array.replicate 15 false) _ _
  obtain ⟨w2, hw2⟩ : ∃ w2, w2 = w1.drew := ⟨_, rfl⟩
  rw [← hw2]
  have HL2 : Hid (IsLog w2 lb b L) := by unfold Hid; rw [hw2]; exact HL1.out.below (Below.refl _ _).drew
  have HB2 : Hid (Below w.heap.size w w2) := by unfold Hid; rw [hw2]; exact HB.out.drew
  have HS : Hid (w2.cell? ⟨lb, 2, none⟩ = some (.int .i64 (L.counts : Nat)) ∧ w2.cell? ⟨lb, 4, none⟩ = some (.int .i64 (L.n : Nat))) := ⟨HL2.out.c2, HL2.out.c4⟩
  clear hw2
  refine takeU 0 (v := ?_) rfl (by kernel_rfl) (by kernel_rfl) (fun _ _ _ h => h) rfl (fun u hu => ?_) HS.out ?_
  rotate_left
  · obtain ⟨q2, q4⟩ := hu; go_simp <;> with_reducible rfl
  simp only [Act.put, List.setIfInBounds_toArray, List.set_cons_zero, List.set_cons_succ]
  refine takeU 1 (v := ?_) rfl (by kernel_rfl) (by kernel_rfl) (fun _ _ _ h => h) rfl (fun u hu => ?_) HS.out ?_
  rotate_left
  · obtain ⟨q2, q4⟩ := hu; go_simp <;> with_reducible rfl
  simp only [Act.put, List.setIfInBounds_toArray, List.set_cons_zero, List.set_cons_succ]
  refine takeU 2 (v := ?_) rfl (by kernel_rfl) (by kernel_rfl) (fun _ _ _ h => h) rfl (fun u hu => ?_) HS.out ?_
  rotate_left
  · obtain ⟨q2, q4⟩ := hu; go_simp <;> with_reducible rfl
  simp only [Act.put, List.setIfInBounds_toArray, List.set_cons_zero, List.set_cons_succ]
  refine takeU 3 (v := ?_) rfl (by kernel_rfl) (by kernel_rfl) (fun _ _ _ h => h) rfl (fun u hu => ?_) HS.out ?_
  rotate_left
  · obtain ⟨q2, q4⟩ := hu; go_simp <;> with_reducible rfl
  simp only [Act.put, List.setIfInBounds_toArray, List.set_cons_zero, List.set_cons_succ]
  refine takeU 4 (v := ?_) rfl (by kernel_rfl) (by kernel_rfl) (fun _ _ _ h => h) rfl (fun u hu => ?_) HS.out ?_
  rotate_left
  · obtain ⟨q2, q4⟩ := hu; go_simp <;> with_reducible rfl
  simp only [Act.put, List.setIfInBounds_toArray, List.set_cons_zero, List.set_cons_succ]
  refine takeU 5 (v := ?_) rfl (by kernel_rfl) (by kernel_rfl) (fun _ _ _ h => h) rfl (fun u hu => ?_) HS.out ?_
  rotate_left
  · obtain ⟨q2, q4⟩ := hu; go_simp <;> with_reducible rfl
  simp only [Act.put, List.setIfInBounds_toArray, List.set_cons_zero, List.set_cons_succ]
  refine takeU 6 (v := ?_) rfl (by kernel_rfl) (by kernel_rfl) (fun _ _ _ h => h) rfl (fun u hu => ?_) HS.out ?_
  rotate_left
  · obtain ⟨q2, q4⟩ := hu; go_simp <;> with_reducible rfl
  simp only [Act.put, List.setIfInBounds_toArray, List.set_cons_zero, List.set_cons_succ]
  refine takeU 7 (v := ?_) rfl (by kernel_rfl) (by kernel_rfl) (fun _ _ _ h => h) rfl (fun u hu => ?_) HS.out ?_
  rotate_left
  · obtain ⟨q2, q4⟩ := hu; go_simp <;> with_reducible rfl
  simp only [Act.put, List.setIfInBounds_toArray, List.set_cons_zero, List.set_cons_succ]
  refine takeU 8 (v := ?_) rfl (by kernel_rfl) (by kernel_rfl) (fun _ _ _ h => h) rfl (fun u hu => ?_) HS.out ?_
  rotate_left
  · obtain ⟨q2, q4⟩ := hu; go_simp <;> with_reducible rfl
  simp only [Act.put, List.setIfInBounds_toArray, List.set_cons_zero, List.set_cons_succ]
  refine takeU 9 (v := ?_) rfl (by kernel_rfl) (by kernel_rfl) (fun _ _ _ h => h) rfl (fun u hu => ?_) HS.out ?_
  rotate_left
  · obtain ⟨q2, q4⟩ := hu; go_simp <;> with_reducible rfl
  simp only [Act.put, List.setIfInBounds_toArray, List.set_cons_zero, List.set_cons_succ]
  refine takeU 10 (v := ?_) rfl (by kernel_rfl) (by kernel_rfl) (fun _ _ _ h => h) rfl (fun u hu => ?_) HS.out ?_
  rotate_left
  · obtain ⟨q2, q4⟩ := hu; go_simp <;> with_reducible rfl
  simp only [Act.put, List.setIfInBounds_toArray, List.set_cons_zero, List.set_cons_succ]
  refine takeU 11 (v := ?_) rfl (by kernel_rfl) (by kernel_rfl) (fun _ _ _ h => h) rfl (fun u hu => ?_) HS.out ?_
  rotate_left
  · obtain ⟨q2, q4⟩ := hu; go_simp <;> with_reducible rfl
  simp only [Act.put, List.setIfInBounds_toArray, List.set_cons_zero, List.set_cons_succ]
  refine oneU 12 (by kernel_rfl) ?_
  refine callU 12 rfl (by kernel_rfl) rfl 41 _ _ rfl #[.pointer (some ⟨lb, 0, none⟩), .int .i64 (L.counts : Nat), .int .i64 ((L.n + 1 : Nat) : Int), .string s] (by simp [Act.eval]; exact IntWalk.i64_in _ (by omega)) (enters_of Tryd.func41 (by kernel_rfl) rfl) (fun v w' => v = .nilIface ∧ Hid (IsDisk w' b g cap (D.writeX (L.counts : Nat) (recS (L.n + 1) s)).1 ∧ Chg (fun k => k = b ∨ k = g) w2 w')) ((HW.out _ HB2.out).mono fun e w' ⟨h1, h2, h3⟩ => ⟨_, h1, rfl, h2, h3⟩) ?_
  rintro v w3 ⟨rfl, hK⟩
  have HD3 := Lib.hid hK.out.1
  have HC3 := Lib.hid ((Chg.of_below (fun k => k = b ∨ k = g) HB2.out).trans hK.out.2)
  have HL3 := Lib.hid (HL.out.keep HC3.out (fun e => by have := HL.out.ne HD0.out; omega))
  refine ⟨⟨HL3.out.c2, HL3.out.c4⟩, ?_⟩
  simp only [Act.put, List.setIfInBounds_toArray, List.set_cons_zero, List.set_cons_succ]
  refine oneU 13 (by kernel_rfl) ?_
  refine callU 13 rfl (by kernel_rfl) rfl 44 _ _ rfl #[.pointer (some ⟨lb, 0, none⟩), .nilIface] (by simp [Act.eval]) (enters_of Tryd.func44 (by kernel_rfl) rfl) (fun v w' => v = .int .i64 0 ∧ w' = w3) ((toldOk lb w3).mono fun e w' ⟨h1, h2⟩ => ⟨_, h1, rfl, h2⟩) ?_
  rintro v w4 ⟨rfl, rfl⟩
  refine ⟨⟨HL3.out.c2, HL3.out.c4⟩, ?_⟩
  simp only [Act.put, List.setIfInBounds_toArray, List.set_cons_zero, List.set_cons_succ]
  refine oneU 14 (by kernel_rfl) ?_
  refine endU (v := ?_) 14 rfl (by kernel_rfl) (by kernel_rfl) rfl ?_ ?_
  rotate_left
  · go_simp <;> with_reducible rfl
  simp only [Act.put, List.setIfInBounds_toArray, List.set_cons_zero, List.set_cons_succ]
  have c4 := HL3.out.c4
  have f4 := HL3.out.free 4
  clear HS HW HL2 HL1
  go_wp2_with fail
  go_ret
  have e1 : ((L.n : Int) + 1) = ((L.n + 1 : Nat) : Int) := by omega
  rw [e1]
  have hc5 : Chg (fun k => k = lb) w4 (w4.setCell ⟨lb, 4, none⟩ (.int .i64 ((L.n + 1 : Nat) : Int))) := Chg.setCell (fun k => k = lb) w4 rfl _
  exact ⟨rfl, HL3.out.setN _, HD3.out.log HL3.out hc5, (HC3.out.mono (fun k _ h => .inr h)).trans (hc5.mono (fun k _ h => .inl h))⟩
set_option maxHeartbeats 1600000 in
theorem syncLOk (h : IsLog w lb b L) (hd : IsDisk w b g cap D) (hok : DOk D) (hdl : L.dead = false) (hr : (D.syncX (L.counts : Nat)).2 = 0) :
    Calls Tryd.prog 24 #[.pointer (some ⟨lb, 0, none⟩)] w fun e w' => e = .returned (.int .i64 0) ∧ IsDisk w' b g cap (D.syncX (L.counts : Nat)).1 ∧ Chg (fun k => k = b ∨ k = g) w w' := by
  have c5 := h.c5
  rw [hdl] at c5
  have HW := Lib.hid (fun (w1 : World) (hb : Below w.heap.size w w1) => syncA (hd.below hb) hok (L.counts : Nat))
  rw [hr] at HW
  have HL := Lib.hid h
  have HD0 := Lib.hid hd
  clear h hd hok hdl hr
  go_enter Tryd.func24, Tryd.ntmps24
  go_wp2_with fail
  refine wp_region_U 12 (fun u => u.cell? ⟨lb, 0, none⟩ = some (.pointer (some ⟨b, 0, none⟩)) ∧ u.cell? ⟨lb, 2, none⟩ = some (.int .i64 (L.counts : Nat))) (by kernel_rfl) ?_
  change wpAnyU _ _ _ _ _ _ 13 (Array.replicate 13 false) _ _
  obtain ⟨w2, hw2⟩ : ∃ w2, w2 = w.drew := ⟨_, rfl⟩
  rw [← hw2]
  have HL2 : Hid (IsLog w2 lb b L) := by unfold Hid; rw [hw2]; exact HL.out.below (Below.refl _ _).drew
  have HB2 : Hid (Below w.heap.size w w2) := by unfold Hid; rw [hw2]; exact (Below.refl _ _).drew
  clear hw2 c5
  have HS : Hid (w2.cell? ⟨lb, 0, none⟩ = some (.pointer (some ⟨b, 0, none⟩)) ∧ w2.cell? ⟨lb, 2, none⟩ = some (.int .i64 (L.counts : Nat))) := ⟨HL2.out.c0, HL2.out.c2⟩
  refine takeU 0 (v := ?_) rfl (by kernel_rfl) (by kernel_rfl) (fun _ _ _ h => h) rfl (fun u hu => ?_) HS.out ?_
  rotate_left
  · obtain ⟨q2, q4⟩ := hu; go_simp <;> with_reducible rfl
  simp only [Act.put, List.setIfInBounds_toArray, List.set_cons_zero, List.set_cons_succ]
  refine takeU 1 (v := ?_) rfl (by kernel_rfl) (by kernel_rfl) (fun _ _ _ h => h) rfl (fun u hu => ?_) HS.out ?_
  rotate_left
  · obtain ⟨q2, q4⟩ := hu; go_simp <;> with_reducible rfl
  simp only [Act.put, List.setIfInBounds_toArray, List.set_cons_zero, List.set_cons_succ]
  refine takeU 2 (v := ?_) rfl (by kernel_rfl) (by kernel_rfl) (fun _ _ _ h => h) rfl (fun u hu => ?_) HS.out ?_
  rotate_left
  · obtain ⟨q2, q4⟩ := hu; go_simp <;> with_reducible rfl
  simp only [Act.put, List.setIfInBounds_toArray, List.set_cons_zero, List.set_cons_succ]
  refine takeU 3 (v := ?_) rfl (by kernel_rfl) (by kernel_rfl) (fun _ _ _ h => h) rfl (fun u hu => ?_) HS.out ?_
  rotate_left
  · obtain ⟨q2, q4⟩ := hu; go_simp <;> with_reducible rfl
  simp only [Act.put, List.setIfInBounds_toArray, List.set_cons_zero, List.set_cons_succ]
  refine takeU 4 (v := ?_) rfl (by kernel_rfl) (by kernel_rfl) (fun _ _ _ h => h) rfl (fun u hu => ?_) HS.out ?_
  rotate_left
  · obtain ⟨q2, q4⟩ := hu; go_simp <;> with_reducible rfl
  simp only [Act.put, List.setIfInBounds_toArray, List.set_cons_zero, List.set_cons_succ]
  refine takeU 5 (v := ?_) rfl (by kernel_rfl) (by kernel_rfl) (fun _ _ _ h => h) rfl (fun u hu => ?_) HS.out ?_
  rotate_left
  · obtain ⟨q2, q4⟩ := hu; go_simp <;> with_reducible rfl
  simp only [Act.put, List.setIfInBounds_toArray, List.set_cons_zero, List.set_cons_succ]
  refine takeU 6 (v := ?_) rfl (by kernel_rfl) (by kernel_rfl) (fun _ _ _ h => h) rfl (fun u hu => ?_) HS.out ?_
  rotate_left
  · obtain ⟨q2, q4⟩ := hu; go_simp <;> with_reducible rfl
  simp only [Act.put, List.setIfInBounds_toArray, List.set_cons_zero, List.set_cons_succ]
  refine takeU 7 (v := ?_) rfl (by kernel_rfl) (by kernel_rfl) (fun _ _ _ h => h) rfl (fun u hu => ?_) HS.out ?_
  rotate_left
  · obtain ⟨q2, q4⟩ := hu; go_simp <;> with_reducible rfl
  simp only [Act.put, List.setIfInBounds_toArray, List.set_cons_zero, List.set_cons_succ]
  refine takeU 8 (v := ?_) rfl (by kernel_rfl) (by kernel_rfl) (fun _ _ _ h => h) rfl (fun u hu => ?_) HS.out ?_
  rotate_left
  · obtain ⟨q2, q4⟩ := hu; go_simp <;> with_reducible rfl
  simp only [Act.put, List.setIfInBounds_toArray, List.set_cons_zero, List.set_cons_succ]
  refine oneU 9 (by kernel_rfl) ?_
  refine callU 9 rfl (by kernel_rfl) rfl 43 _ _ rfl #[.pointer (some ⟨b, 0, none⟩), .int .i64 (L.counts : Nat)] (by simp [Act.eval]) (enters_of Tryd.func43 (by kernel_rfl) rfl) (fun v w' => v = .int .i64 0 ∧ Hid (IsDisk w' b g cap (D.syncX (L.counts : Nat)).1 ∧ Chg (fun k => k = b ∨ k = g) w2 w')) ((HW.out _ HB2.out).mono fun e w' ⟨h1, h2, h3⟩ => ⟨_, h1, rfl, h2, h3⟩) ?_
  rintro v w3 ⟨rfl, hK⟩
  have HD3 := Lib.hid hK.out.1
  have HC3 := Lib.hid ((Chg.of_below (fun k => k = b ∨ k = g) HB2.out).trans hK.out.2)
  have HL3 := Lib.hid (HL.out.keep HC3.out (fun e => by have := HL.out.ne HD0.out; omega))
  refine ⟨⟨HL3.out.c0, HL3.out.c2⟩, ?_⟩
  simp only [Act.put, List.setIfInBounds_toArray, List.set_cons_zero, List.set_cons_succ]
  refine oneU 10 (by kernel_rfl) ?_
  refine callU 10 rfl (by kernel_rfl) rfl 42 _ _ rfl #[.string ⟨#[97, 32, 115, 121, 110, 99]⟩, .int .i64 0] (by simp [Act.eval]) (enters_of Tryd.func42 (by kernel_rfl) rfl) (fun v w' => v = .nilIface ∧ w' = w3) ((stepOk _ w3).mono fun e w' ⟨h1, h2⟩ => ⟨_, h1, rfl, h2⟩) ?_
  rintro v w4 ⟨rfl, rfl⟩
  refine ⟨⟨HL3.out.c0, HL3.out.c2⟩, ?_⟩
  simp only [Act.put, List.setIfInBounds_toArray, List.set_cons_zero, List.set_cons_succ]
  refine oneU 11 (by kernel_rfl) ?_
  refine callU 11 rfl (by kernel_rfl) rfl 44 _ _ rfl #[.pointer (some ⟨lb, 0, none⟩), .nilIface] (by simp [Act.eval]) (enters_of Tryd.func44 (by kernel_rfl) rfl) (fun v w' => v = .int .i64 0 ∧ w' = w4) ((toldOk lb w4).mono fun e w' ⟨h1, h2⟩ => ⟨_, h1, rfl, h2⟩) ?_
  rintro v w5 ⟨rfl, rfl⟩
  refine ⟨⟨HL3.out.c0, HL3.out.c2⟩, ?_⟩
  simp only [Act.put, List.setIfInBounds_toArray, List.set_cons_zero, List.set_cons_succ]
  refine oneU 12 (by kernel_rfl) ?_
  refine endU (v := ?_) 12 rfl (by kernel_rfl) (by kernel_rfl) rfl ?_ ?_
  rotate_left
  · go_simp <;> with_reducible rfl
  simp only [Act.put, List.setIfInBounds_toArray, List.set_cons_zero, List.set_cons_succ]
  go_wp2_with fail
  go_ret
  exact ⟨rfl, HD3.out, HC3.out⟩
set_option maxHeartbeats 800000 in
theorem cloneLW (h : IsLog w lb b L) (b' : Nat) : Calls Tryd.prog 35 #[.pointer (some ⟨lb, 0, none⟩), .pointer (some ⟨b', 0, none⟩)] w fun e w' => e = .returned (.pointer (some ⟨w.heap.size, 0, none⟩)) ∧ IsLog w' w.heap.size b' L ∧ Below w.heap.size w w' := by
  have HL := Lib.hid h
  have hlt := h.lt
  have c0 := h.c0
  have c1 := h.c1
  have c2 := h.c2
  have c3 := h.c3
  have c4 := h.c4
  have c5 := h.c5
  clear h
  go_enter Tryd.func35, Tryd.ntmps35
  go_wp2_with fail
  go_ret
  exact ⟨rfl, ⟨heap_at rfl⟩, (Below.refl _ _).alloc (Nat.le_refl _) _⟩
end
end Go.Proofs.YtamaefnlicloaaaDoor
