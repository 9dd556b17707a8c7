/- The document's disk: Write. -/
import Derived.Test.YtennhmnmoamleaaDRef8
namespace Go.Proofs.Ytennhmnmoamleaa
set_option linter.unusedVariables false
open Go.RowKit
/-- What a call on the document's disk leaves. -/
def RPost (B : Nat) (w0 w : World) (b : Nat) (r : Dk × Int) (e : Ending) (w' : World) : Prop := e = .returned (.int .i64 r.2) ∧ (∃ g' cap', IsR B w0 w' b g' cap' r.1) ∧ Chg (fun k => k = b) w w'
def SPost (B : Nat) (w0 w : World) (b : Nat) (D' : Dk) (w' : World) : Prop := (∃ g' cap', IsR B w0 w' b g' cap' D') ∧ Chg (fun k => k = b) w w'
theorem IsR.chs {B : Nat} {w0 w : World} {b g cap : Nat} {D : Dk} (h : IsR B w0 w b g cap D) : ∃ cv, w.cell? ⟨b, 2, none⟩ = some cv ∧ Rss w cv D.ch := by
  obtain ⟨_, _, ⟨cv, h1, h2⟩, _⟩ := h.cells
  exact ⟨cv, h1, h2.below (by have := h.below; rw [h.le] at this; exact this)⟩
theorem OwnsS.base {w : World} {B base : Nat} {v : Value} {ss : List ByteArray} (h : OwnsS w base v ss) (hB : B ≤ base) : OwnsS w B v ss :=
  ⟨h.1, h.2.imp id (fun ⟨g, cap, cur, e, hh, r⟩ => ⟨g, cap, cur, e, Nat.le_trans hB hh, r⟩)⟩
theorem strs_one {w : World} {X : Nat} {s : ByteArray} (h : w.cell? ⟨X, 0, none⟩ = some (.string s)) : Strs w (.slice (some ⟨X, 0, none⟩) 1 1) [s] :=
  Strs.mk (p := some ⟨X, 0, none⟩) (cap := 1) (ss := [s]) (fun j hj => ⟨X, 0, rfl, by
    have e : j = 0 := by simpa using hj
    subst e
    exact h⟩)
set_option maxRecDepth 100000 in
set_option maxHeartbeats 3200000 in
theorem rwriteW {B : Nat} {w0 w : World} {b g cap : Nat} {D : Dk} (h : IsR B w0 w b g cap D) (hok : DOk D) (hd : D.dead = false) (f : Nat) (hf : f < D.l.length) (s : ByteArray) (hs : (rd (D.l.getD f Fl.zero)).size + s.size ≤ 262144) (hm1 : (D.l.getD f Fl.zero).ws.length < 1099511627776) :
    Calls Try.prog 25 #[.pointer (some ⟨b, 0, none⟩), .int .i64 (f : Nat), .string s] w (RPost B w0 w b (D.write f s)) := by
  have HI := Lib.hid (risW h (f : Nat))
  have e : D.out (f : Nat) = false := by unfold Dk.out; rw [decide_eq_false_iff_not]; omega
  rw [e] at HI
  have c3 := h.cells.2.2.2
  rw [hd] at c3
  have HR := Lib.hid (rsizeYes h hok f hf)
  obtain ⟨sz, hsz⟩ : ∃ n, n = (rd (D.l.getD f Fl.zero)).size := ⟨_, rfl⟩
  have HSZ := Lib.hid hsz
  rw [← hsz] at HR
  have H := Lib.hid h
  have HPO := Lib.hid (hok.put f s hs hm1)
  have hn := hok.n
  rw [← hsz] at hs
  have hs2 : ¬ (262144 : Int) < (sz : Int) + (s.size : Int) := by omega
  clear h hd e hsz hok
  go_enter Try.func25, Try.ntmps25
  go_wp2_with fail
  refine HI.out.mono ?_
  rintro e w1 ⟨rfl, rfl⟩
  go_wp2_with fail
  refine HR.out.mono ?_
  rintro e w1 ⟨rfl, hb1⟩
  have hid := H.out.grow hb1
  have HID1 := Lib.hid hid
  have HC1 := Lib.hid (Chg.of_below (fun k => k = b) hb1)
  clear hb1 HR HI c3
  obtain ⟨v0, c00, hrf⟩ := hid.cells.1
  have hfm := hrf.form
  subst hfm
  have h2 := hrf.len
  have h3 := hrf.capm
  unfold maxLen at h3
  have c1 := hrf.safe f hf
  obtain ⟨u, c2, hws⟩ := hrf.ws f hf
  obtain ⟨x, hx⟩ : ∃ x, x = D.l.getD f Fl.zero := ⟨_, rfl⟩
  rw [← hx] at c1 hws hm1
  have HX := Lib.hid hx
  obtain ⟨p, c, rfl, _⟩ := hws.form
  have hz : Hid (Value.slice p x.ws.length c = .slice none 0 0 ∨ ∃ b off n c', Value.slice p x.ws.length c = .slice (some ⟨b, off, none⟩) n c') := by
    rcases hws.2 with ⟨hv, hn⟩ | ⟨g1, c1, _, hv, _⟩
    · exact .inl hv
    · exact .inr ⟨g1, 0, _, _, hv⟩
  have HWS := Lib.hid hws
  obtain ⟨m, hm⟩ : ∃ m, m = x.ws.length := ⟨_, rfl⟩
  rw [← hm] at c2 HWS hz hm1
  obtain ⟨S0, hS0⟩ : ∃ s, s = x.safe := ⟨_, rfl⟩
  rw [← hS0] at c1
  have HM := Lib.hid hm
  have HS0 := Lib.hid hS0
  have hgl : g < w1.heap.size := hrf.lt
  have hbl : b < w1.heap.size := hid.lt
  have KK : Hid (∀ u, Below w1.heap.size w1 u → u.cell? ⟨b, 0, none⟩ = some (.slice (some ⟨g, 0, none⟩) D.l.length cap) ∧ u.cell? ⟨g, f * 2, none⟩ = some (.string S0) ∧ u.cell? ⟨g, f * 2 + 1, none⟩ = some (.slice p m c)) := fun u hb =>
    ⟨(hb.cell (p := ⟨b, 0, none⟩) hbl).trans c00, (hb.cell (p := ⟨g, f * 2, none⟩) hgl).trans c1, (hb.cell (p := ⟨g, f * 2 + 1, none⟩) hgl).trans c2⟩
  have i1 : (0 : Int) ≤ (f : Int) := by omega
  have i2 : (f : Int) < (D.l.length : Int) := by omega
  -- the tail, whatever the way there
  have HT : Hid (∀ v' w', OwnsS w' w1.heap.size v' (x.ws ++ [s]) → Below w1.heap.size w1 w' → Calls Try.prog 47 #[.pointer (some ⟨b, 0, none⟩), .int .i64 (f : Nat), .agg #[.string S0, v']] w' fun e w2 => e = .returned (.tuple #[]) ∧ SPost B w0 w b (D.put f s) w2) := fun v' w' ho hb => by
    have hset := rsetW (HID1.out.grow hb) hn f hf ⟨S0, x.ws ++ [s]⟩ v' ho.ws
    refine hset.mono fun e w2 ⟨h1, h2, h3⟩ => ⟨h1, ?_, HC1.out.trans ((Chg.of_below (fun k => k = b) hb).trans h3)⟩
    have e : D.put f s = D.setf f ⟨S0, x.ws ++ [s]⟩ := by rw [HS0.out, HX.out]; rfl
    rw [e]
    exact h2
  clear hid hrf hws hx hm hS0 c00 c1 c2
  go_wp2_with fail
  have hlx : x.ws.length ≤ 1099511627776 := by rw [← HM.out]; omega
  have HAL : Hid (([] : List ByteArray).length + x.ws.length ≤ 1099511627777) := by unfold Hid; simp; omega
  have HAM : Hid (x.ws.length + [s].length ≤ 1099511627777) := by unfold Hid; simp; omega
  have HB2 : Hid (Below w1.heap.size w1 w1.drew) := (Below.refl _ _).drew
  clear hlx
  refine wp_region_U 24 (fun u => Below w1.heap.size w1 u) (by kernel_rfl) ?_
  change wpAnyU _ _ _ _ _ _ 25 (Array.replicate 25 false) _ _
  obtain ⟨w2, hw2⟩ : ∃ w2, w2 = w1.drew := ⟨_, rfl⟩
  rw [← hw2]
  rw [← hw2] at HB2
  clear hw2
  refine takeU 0 (v := ?_) rfl (by kernel_rfl) (by kernel_rfl) (fun _ _ _ h => h) rfl (fun u hu => ?_) HB2.out ?_
  rotate_left
  · have k0 := (KK.out u hu).1; have k1 := (KK.out u hu).2.1; have k2 := (KK.out u hu).2.2; go_simp <;> with_reducible rfl
  simp only [Act.put, List.setIfInBounds_toArray, List.set_cons_zero, List.set_cons_succ]
  refine takeU 1 (v := ?_) rfl (by kernel_rfl) (by kernel_rfl) (fun _ _ _ h => h) rfl (fun u hu => ?_) HB2.out ?_
  rotate_left
  · have k0 := (KK.out u hu).1; have k1 := (KK.out u hu).2.1; have k2 := (KK.out u hu).2.2; go_simp <;> with_reducible rfl
  simp only [Act.put, List.setIfInBounds_toArray, List.set_cons_zero, List.set_cons_succ]
  refine takeU 2 (v := ?_) rfl (by kernel_rfl) (by kernel_rfl) (fun _ _ _ h => h) rfl (fun u hu => ?_) HB2.out ?_
  rotate_left
  · have k0 := (KK.out u hu).1; have k1 := (KK.out u hu).2.1; have k2 := (KK.out u hu).2.2; go_simp <;> with_reducible rfl
  simp only [Act.put, List.setIfInBounds_toArray, List.set_cons_zero, List.set_cons_succ]
  refine takeU 3 (v := ?_) rfl (by kernel_rfl) (by kernel_rfl) (fun _ _ _ h => h) rfl (fun u hu => ?_) HB2.out ?_
  rotate_left
  · have k0 := (KK.out u hu).1; have k1 := (KK.out u hu).2.1; have k2 := (KK.out u hu).2.2; go_simp <;> with_reducible rfl
  simp only [Act.put, List.setIfInBounds_toArray, List.set_cons_zero, List.set_cons_succ]
  refine takeU 4 (v := ?_) rfl (by kernel_rfl) (by kernel_rfl) (fun _ _ _ h => h) rfl (fun u hu => ?_) HB2.out ?_
  rotate_left
  · have k0 := (KK.out u hu).1; have k1 := (KK.out u hu).2.1; have k2 := (KK.out u hu).2.2; go_simp <;> with_reducible rfl
  simp only [Act.put, List.setIfInBounds_toArray, List.set_cons_zero, List.set_cons_succ]
  refine takeU 5 (v := ?_) rfl (by kernel_rfl) (by kernel_rfl) (fun _ _ _ h => h) rfl (fun u hu => ?_) HB2.out ?_
  rotate_left
  · have k0 := (KK.out u hu).1; have k1 := (KK.out u hu).2.1; have k2 := (KK.out u hu).2.2; go_simp <;> with_reducible rfl
  simp only [Act.put, List.setIfInBounds_toArray, List.set_cons_zero, List.set_cons_succ]
  refine takeU 6 (v := ?_) rfl (by kernel_rfl) (by kernel_rfl) (fun _ _ _ h => h) rfl (fun u hu => ?_) HB2.out ?_
  rotate_left
  · have k0 := (KK.out u hu).1; have k1 := (KK.out u hu).2.1; have k2 := (KK.out u hu).2.2; go_simp <;> with_reducible rfl
  simp only [Act.put, List.setIfInBounds_toArray, List.set_cons_zero, List.set_cons_succ]
  refine takeU 7 (v := ?_) rfl (by kernel_rfl) (by kernel_rfl) (fun _ _ _ h => h) rfl (fun u hu => ?_) HB2.out ?_
  rotate_left
  · have k0 := (KK.out u hu).1; have k1 := (KK.out u hu).2.1; have k2 := (KK.out u hu).2.2; go_simp <;> with_reducible rfl
  simp only [Act.put, List.setIfInBounds_toArray, List.set_cons_zero, List.set_cons_succ]
  refine takeU 8 (v := ?_) rfl (by kernel_rfl) (by kernel_rfl) (fun _ _ _ h => h) rfl (fun u hu => ?_) HB2.out ?_
  rotate_left
  · have k0 := (KK.out u hu).1; have k1 := (KK.out u hu).2.1; have k2 := (KK.out u hu).2.2; go_simp <;> with_reducible rfl
  simp only [Act.put, List.setIfInBounds_toArray, List.set_cons_zero, List.set_cons_succ]
  refine takeU 9 (v := ?_) rfl (by kernel_rfl) (by kernel_rfl) (fun _ _ _ h => h) rfl (fun u hu => ?_) HB2.out ?_
  rotate_left
  · have k0 := (KK.out u hu).1; have k1 := (KK.out u hu).2.1; have k2 := (KK.out u hu).2.2; go_simp <;> with_reducible rfl
  simp only [Act.put, List.setIfInBounds_toArray, List.set_cons_zero, List.set_cons_succ]
  refine takeU 11 (v := ?_) rfl (by kernel_rfl) (by kernel_rfl) (fun _ _ _ h => h) rfl (fun u hu => ?_) HB2.out ?_
  rotate_left
  · have k0 := (KK.out u hu).1; have k1 := (KK.out u hu).2.1; have k2 := (KK.out u hu).2.2; go_simp <;> with_reducible rfl
  simp only [Act.put, List.setIfInBounds_toArray, List.set_cons_zero, List.set_cons_succ]
  refine takeU 12 (v := ?_) rfl (by kernel_rfl) (by kernel_rfl) (fun _ _ _ h => h) rfl (fun u hu => ?_) HB2.out ?_
  rotate_left
  · have k0 := (KK.out u hu).1; have k1 := (KK.out u hu).2.1; have k2 := (KK.out u hu).2.2; go_simp <;> with_reducible rfl
  simp only [Act.put, List.setIfInBounds_toArray, List.set_cons_zero, List.set_cons_succ]
  refine takeU 13 (v := ?_) rfl (by kernel_rfl) (by kernel_rfl) (fun _ _ _ h => h) rfl (fun u hu => ?_) HB2.out ?_
  rotate_left
  · have k0 := (KK.out u hu).1; have k1 := (KK.out u hu).2.1; have k2 := (KK.out u hu).2.2; go_simp <;> with_reducible rfl
  simp only [Act.put, List.setIfInBounds_toArray, List.set_cons_zero, List.set_cons_succ]
  refine takeU 14 (v := ?_) rfl (by kernel_rfl) (by kernel_rfl) (fun _ _ _ h => h) rfl (fun u hu => ?_) HB2.out ?_
  rotate_left
  · have k0 := (KK.out u hu).1; have k1 := (KK.out u hu).2.1; have k2 := (KK.out u hu).2.2; go_simp <;> with_reducible rfl
  simp only [Act.put, List.setIfInBounds_toArray, List.set_cons_zero, List.set_cons_succ]
  refine takeU 15 (v := ?_) rfl (by kernel_rfl) (by kernel_rfl) (fun _ _ _ h => h) rfl (fun u hu => ?_) HB2.out ?_
  rotate_left
  · have k0 := (KK.out u hu).1; have k1 := (KK.out u hu).2.1; have k2 := (KK.out u hu).2.2; go_simp <;> with_reducible rfl
  simp only [Act.put, List.setIfInBounds_toArray, List.set_cons_zero, List.set_cons_succ]
  refine takeU 16 (v := ?_) rfl (by kernel_rfl) (by kernel_rfl) (fun _ _ _ h => h) rfl (fun u hu => ?_) HB2.out ?_
  rotate_left
  · have k0 := (KK.out u hu).1; have k1 := (KK.out u hu).2.1; have k2 := (KK.out u hu).2.2; go_simp <;> with_reducible rfl
  simp only [Act.put, List.setIfInBounds_toArray, List.set_cons_zero, List.set_cons_succ]
  refine takeU 17 (v := ?_) rfl (by kernel_rfl) (by kernel_rfl) (fun _ _ _ h => h) rfl (fun u hu => ?_) HB2.out ?_
  rotate_left
  · have k0 := (KK.out u hu).1; have k1 := (KK.out u hu).2.1; have k2 := (KK.out u hu).2.2; go_simp <;> with_reducible rfl
  simp only [Act.put, List.setIfInBounds_toArray, List.set_cons_zero, List.set_cons_succ]
  refine takeU 18 (v := ?_) rfl (by kernel_rfl) (by kernel_rfl) (fun _ _ _ h => h) rfl (fun u hu => ?_) HB2.out ?_
  rotate_left
  · have k0 := (KK.out u hu).1; have k1 := (KK.out u hu).2.1; have k2 := (KK.out u hu).2.2; go_simp <;> with_reducible rfl
  simp only [Act.put, List.setIfInBounds_toArray, List.set_cons_zero, List.set_cons_succ]
  refine takeU 20 (v := ?_) rfl (by kernel_rfl) (by kernel_rfl) (fun _ _ _ h => h) rfl (fun u hu => ?_) HB2.out ?_
  rotate_left
  · have k0 := (KK.out u hu).1; have k1 := (KK.out u hu).2.1; have k2 := (KK.out u hu).2.2; go_simp <;> with_reducible rfl
  simp only [Act.put, List.setIfInBounds_toArray, List.set_cons_zero, List.set_cons_succ]
  clear KK
  refine twoU 10 21 (by kernel_rfl) ?_ ?_
  · skip
    refine someU 10 rfl (by kernel_rfl) ?_
    refine step_empty_s rfl rfl ?_
    intro X10 w3 ho hb
    have HO10 := Lib.hid (ho.base HB2.out.size)
    have HNE := Lib.hid (OwnsS.block (k := X10) ho rfl)
    have HB3 := Lib.hid (HB2.out.trans (hb.mono HB2.out.size))
    skip
    clear ho hb
    refine ⟨HB3.out, ?_⟩
    simp only [Act.put, List.setIfInBounds_toArray, List.set_cons_zero, List.set_cons_succ]
    refine twoU 19 21 (by kernel_rfl) ?_ ?_
    · skip
      refine someU 19 rfl (by kernel_rfl) ?_
      refine step_append_ss rfl _ _ rfl rfl rfl HO10.out (HWS.out.below HB3.out).strs hz.out HAL.out HB3.out.size ?_
      intro v19 w4 ho hg
      rw [List.nil_append] at ho
      have HO19 := Lib.hid ho
      have HB4 := Lib.hid (HB3.out.grown hg HB3.out.size (fun k hk => (HO10.out.block hk).1))
      skip
      clear ho hg
      refine ⟨HB4.out, ?_⟩
      simp only [Act.put, List.setIfInBounds_toArray, List.set_cons_zero, List.set_cons_succ]
      refine oneU 21 (by kernel_rfl) ?_
      refine someU 21 rfl (by kernel_rfl) ?_
      refine step_one_s rfl _ rfl s rfl ?_
      intro X21 w5 hc h1 h2 hb
      have HC21 := Lib.hid hc
      replace HO19 := Lib.hid (HO19.out.kept hb)
      have HB5 := Lib.hid (HB4.out.trans (hb.mono HB4.out.size))
      clear hc h1 h2 hb
      refine ⟨HB5.out, ?_⟩
      simp only [Act.put, List.setIfInBounds_toArray, List.set_cons_zero, List.set_cons_succ]
      refine oneU 22 (by kernel_rfl) ?_
      refine someU 22 rfl (by kernel_rfl) ?_
      refine step_append_ss (new := [s]) rfl _ _ rfl rfl rfl HO19.out (strs_one HC21.out) (.inr ⟨_, _, _, _, rfl⟩) HAM.out HB5.out.size ?_
      intro v22 w6 ho hg
      have hb : Below w1.heap.size w1 w6 := HB5.out.grown hg HB5.out.size (fun k hk => (HO19.out.block hk).1)
      have HT2 := Lib.hid (HT.out v22 w6 ho hb)
      obtain ⟨p22, c22, rfl, _⟩ := ho.ws.form
      have HB6 := Lib.hid hb
      clear ho hb hg
      refine ⟨HB6.out, ?_⟩
      simp only [Act.put, List.setIfInBounds_toArray, List.set_cons_zero, List.set_cons_succ]
      refine takeU 23 (v := ?_) rfl (by kernel_rfl) (by kernel_rfl) (fun _ _ _ h => h) rfl (fun u hu => ?_) HB6.out ?_
      rotate_left
      · skip; go_simp <;> with_reducible rfl
      simp only [Act.put, List.setIfInBounds_toArray, List.set_cons_zero, List.set_cons_succ]
      refine oneU 24 (by kernel_rfl) ?_
      refine lastU 24 rfl (by kernel_rfl) (by kernel_rfl) ?_
      refine step_calls (by rfl) 47 _ _ (by rfl) #[.pointer (some ⟨b, 0, none⟩), .int .i64 (f : Nat), .agg #[.string S0, .slice p22 (x.ws ++ [s]).length c22]] (by simp [Act.eval]) (enters_of Try.func47 (by kernel_rfl) rfl) (.tuple #[]) (SPost B w0 w b (D.put f s)) HT2.out ?_
      rintro w9 ⟨⟨g9, cap9, hid9⟩, hc9⟩
      have HID9 := Lib.hid hid9
      have HC9 := Lib.hid hc9
      clear hid9 hc9 HT2
      simp only [Act.put, List.setIfInBounds_toArray, List.set_cons_zero, List.set_cons_succ]
      go_wp2_with fail
      refine (rgoesW HID9.out HPO.out.armed).mono ?_
      rintro e w10 ⟨rfl, hid10, hc10⟩
      have HID10 := Lib.hid hid10
      have HC10 := Lib.hid (HC9.out.trans hc10)
      clear hid10 hc10 HID9 HC9
      by_cases ha : D.armed = 1
      · have HW : Hid (D.write f s = ((D.put f s).tick.died D.ch, 2)) := by unfold Hid Dk.write; rw [if_pos ha]
        have hdd : decide ((D.put f s).armed = 1) = true := decide_eq_true ha
        rw [hdd]
        obtain ⟨cv, c2, hcv⟩ := HID10.out.chs
        have HD := Lib.hid (rdieW HID10.out HPO.out.tick cv D.ch hcv HPO.out.chl)
        obtain ⟨q, qc, rfl, _⟩ := hcv
        clear hdd ha
        go_wp2_with fail
        refine HD.out.mono ?_
        rintro e w11 ⟨rfl, hid11, hc11⟩
        have H11 := Lib.hid (And.intro hid11 (HC10.out.trans hc11))
        clear hid11 hc11 HC10 HID10 c2 HD
        go_wp2_with fail
        go_ret
        unfold RPost
        rw [HW.out]
        exact ⟨rfl, H11.out⟩
      · have HW : Hid (D.write f s = ((D.put f s).tick, 0)) := by unfold Hid Dk.write; rw [if_neg ha]
        have hdd : decide ((D.put f s).armed = 1) = false := decide_eq_false ha
        rw [hdd]
        clear hdd ha
        go_wp2_with fail
        go_ret
        unfold RPost
        rw [HW.out]
        exact ⟨rfl, ⟨g9, cap9, HID10.out⟩, HC10.out⟩
    · skip
      refine someU 21 rfl (by kernel_rfl) ?_
      refine step_one_s rfl _ rfl s rfl ?_
      intro X21 w4 hc h1 h2 hb
      have HC21 := Lib.hid hc
      have HLT := Lib.hid h2
      have HNE2 : Hid (X21 ≠ X10) := by unfold Hid; have := HNE.out.2; omega
      replace HO10 := Lib.hid (HO10.out.kept hb)
      have HB4 := Lib.hid (HB3.out.trans (hb.mono HB3.out.size))
      clear hc h1 h2 hb
      refine ⟨HB4.out, ?_⟩
      simp only [Act.put, List.setIfInBounds_toArray, List.set_cons_zero, List.set_cons_succ]
      refine oneU 19 (by kernel_rfl) ?_
      refine someU 19 rfl (by kernel_rfl) ?_
      refine step_append_ss rfl _ _ rfl rfl rfl HO10.out (HWS.out.below HB4.out).strs hz.out HAL.out HB4.out.size ?_
      intro v19 w5 ho hg
      rw [List.nil_append] at ho
      have HO19 := Lib.hid ho
      have HB5 := Lib.hid (HB4.out.grown hg HB4.out.size (fun k hk => (HO10.out.block hk).1))
      replace HC21 : Hid (w5.cell? ⟨X21, 0, none⟩ = some (.string s)) := (World.cell?_of_block (hg.block X21 HLT.out (fun e => HNE2.out (by injection e)))).trans HC21.out
      clear ho hg
      refine ⟨HB5.out, ?_⟩
      simp only [Act.put, List.setIfInBounds_toArray, List.set_cons_zero, List.set_cons_succ]
      refine oneU 22 (by kernel_rfl) ?_
      refine someU 22 rfl (by kernel_rfl) ?_
      refine step_append_ss (new := [s]) rfl _ _ rfl rfl rfl HO19.out (strs_one HC21.out) (.inr ⟨_, _, _, _, rfl⟩) HAM.out HB5.out.size ?_
      intro v22 w6 ho hg
      have hb : Below w1.heap.size w1 w6 := HB5.out.grown hg HB5.out.size (fun k hk => (HO19.out.block hk).1)
      have HT2 := Lib.hid (HT.out v22 w6 ho hb)
      obtain ⟨p22, c22, rfl, _⟩ := ho.ws.form
      have HB6 := Lib.hid hb
      clear ho hb hg
      refine ⟨HB6.out, ?_⟩
      simp only [Act.put, List.setIfInBounds_toArray, List.set_cons_zero, List.set_cons_succ]
      refine takeU 23 (v := ?_) rfl (by kernel_rfl) (by kernel_rfl) (fun _ _ _ h => h) rfl (fun u hu => ?_) HB6.out ?_
      rotate_left
      · skip; go_simp <;> with_reducible rfl
      simp only [Act.put, List.setIfInBounds_toArray, List.set_cons_zero, List.set_cons_succ]
      refine oneU 24 (by kernel_rfl) ?_
      refine lastU 24 rfl (by kernel_rfl) (by kernel_rfl) ?_
      refine step_calls (by rfl) 47 _ _ (by rfl) #[.pointer (some ⟨b, 0, none⟩), .int .i64 (f : Nat), .agg #[.string S0, .slice p22 (x.ws ++ [s]).length c22]] (by simp [Act.eval]) (enters_of Try.func47 (by kernel_rfl) rfl) (.tuple #[]) (SPost B w0 w b (D.put f s)) HT2.out ?_
      rintro w9 ⟨⟨g9, cap9, hid9⟩, hc9⟩
      have HID9 := Lib.hid hid9
      have HC9 := Lib.hid hc9
      clear hid9 hc9 HT2
      simp only [Act.put, List.setIfInBounds_toArray, List.set_cons_zero, List.set_cons_succ]
      go_wp2_with fail
      refine (rgoesW HID9.out HPO.out.armed).mono ?_
      rintro e w10 ⟨rfl, hid10, hc10⟩
      have HID10 := Lib.hid hid10
      have HC10 := Lib.hid (HC9.out.trans hc10)
      clear hid10 hc10 HID9 HC9
      by_cases ha : D.armed = 1
      · have HW : Hid (D.write f s = ((D.put f s).tick.died D.ch, 2)) := by unfold Hid Dk.write; rw [if_pos ha]
        have hdd : decide ((D.put f s).armed = 1) = true := decide_eq_true ha
        rw [hdd]
        obtain ⟨cv, c2, hcv⟩ := HID10.out.chs
        have HD := Lib.hid (rdieW HID10.out HPO.out.tick cv D.ch hcv HPO.out.chl)
        obtain ⟨q, qc, rfl, _⟩ := hcv
        clear hdd ha
        go_wp2_with fail
        refine HD.out.mono ?_
        rintro e w11 ⟨rfl, hid11, hc11⟩
        have H11 := Lib.hid (And.intro hid11 (HC10.out.trans hc11))
        clear hid11 hc11 HC10 HID10 c2 HD
        go_wp2_with fail
        go_ret
        unfold RPost
        rw [HW.out]
        exact ⟨rfl, H11.out⟩
      · have HW : Hid (D.write f s = ((D.put f s).tick, 0)) := by unfold Hid Dk.write; rw [if_neg ha]
        have hdd : decide ((D.put f s).armed = 1) = false := decide_eq_false ha
        rw [hdd]
        clear hdd ha
        go_wp2_with fail
        go_ret
        unfold RPost
        rw [HW.out]
        exact ⟨rfl, ⟨g9, cap9, HID10.out⟩, HC10.out⟩
  · skip
    refine someU 21 rfl (by kernel_rfl) ?_
    refine step_one_s rfl _ rfl s rfl ?_
    intro X21 w3 hc h1 h2 hb
    have HC21 := Lib.hid hc
    have HLT := Lib.hid h2
    have HB3 := Lib.hid (HB2.out.trans (hb.mono HB2.out.size))
    clear hc h1 h2 hb
    refine ⟨HB3.out, ?_⟩
    simp only [Act.put, List.setIfInBounds_toArray, List.set_cons_zero, List.set_cons_succ]
    refine oneU 10 (by kernel_rfl) ?_
    refine someU 10 rfl (by kernel_rfl) ?_
    refine step_empty_s rfl rfl ?_
    intro X10 w4 ho hb
    have HO10 := Lib.hid (ho.base HB3.out.size)
    have HNE := Lib.hid (OwnsS.block (k := X10) ho rfl)
    have HB4 := Lib.hid (HB3.out.trans (hb.mono HB3.out.size))
    have HNE2 : Hid (X21 ≠ X10) := by unfold Hid; have := HNE.out.1; have := HLT.out; omega
    replace HC21 := Lib.hid ((hb.cell (p := ⟨X21, 0, none⟩) HLT.out).trans HC21.out)
    replace HLT := Lib.hid (Nat.lt_of_lt_of_le HLT.out hb.size)
    clear ho hb
    refine ⟨HB4.out, ?_⟩
    simp only [Act.put, List.setIfInBounds_toArray, List.set_cons_zero, List.set_cons_succ]
    refine oneU 19 (by kernel_rfl) ?_
    refine someU 19 rfl (by kernel_rfl) ?_
    refine step_append_ss rfl _ _ rfl rfl rfl HO10.out (HWS.out.below HB4.out).strs hz.out HAL.out HB4.out.size ?_
    intro v19 w5 ho hg
    rw [List.nil_append] at ho
    have HO19 := Lib.hid ho
    have HB5 := Lib.hid (HB4.out.grown hg HB4.out.size (fun k hk => (HO10.out.block hk).1))
    replace HC21 : Hid (w5.cell? ⟨X21, 0, none⟩ = some (.string s)) := (World.cell?_of_block (hg.block X21 HLT.out (fun e => HNE2.out (by injection e)))).trans HC21.out
    clear ho hg
    refine ⟨HB5.out, ?_⟩
    simp only [Act.put, List.setIfInBounds_toArray, List.set_cons_zero, List.set_cons_succ]
    refine oneU 22 (by kernel_rfl) ?_
    refine someU 22 rfl (by kernel_rfl) ?_
    refine step_append_ss (new := [s]) rfl _ _ rfl rfl rfl HO19.out (strs_one HC21.out) (.inr ⟨_, _, _, _, rfl⟩) HAM.out HB5.out.size ?_
    intro v22 w6 ho hg
    have hb : Below w1.heap.size w1 w6 := HB5.out.grown hg HB5.out.size (fun k hk => (HO19.out.block hk).1)
    have HT2 := Lib.hid (HT.out v22 w6 ho hb)
    obtain ⟨p22, c22, rfl, _⟩ := ho.ws.form
    have HB6 := Lib.hid hb
    clear ho hb hg
    refine ⟨HB6.out, ?_⟩
    simp only [Act.put, List.setIfInBounds_toArray, List.set_cons_zero, List.set_cons_succ]
    refine takeU 23 (v := ?_) rfl (by kernel_rfl) (by kernel_rfl) (fun _ _ _ h => h) rfl (fun u hu => ?_) HB6.out ?_
    rotate_left
    · skip; go_simp <;> with_reducible rfl
    simp only [Act.put, List.setIfInBounds_toArray, List.set_cons_zero, List.set_cons_succ]
    refine oneU 24 (by kernel_rfl) ?_
    refine lastU 24 rfl (by kernel_rfl) (by kernel_rfl) ?_
    refine step_calls (by rfl) 47 _ _ (by rfl) #[.pointer (some ⟨b, 0, none⟩), .int .i64 (f : Nat), .agg #[.string S0, .slice p22 (x.ws ++ [s]).length c22]] (by simp [Act.eval]) (enters_of Try.func47 (by kernel_rfl) rfl) (.tuple #[]) (SPost B w0 w b (D.put f s)) HT2.out ?_
    rintro w9 ⟨⟨g9, cap9, hid9⟩, hc9⟩
    have HID9 := Lib.hid hid9
    have HC9 := Lib.hid hc9
    clear hid9 hc9 HT2
    simp only [Act.put, List.setIfInBounds_toArray, List.set_cons_zero, List.set_cons_succ]
    go_wp2_with fail
    refine (rgoesW HID9.out HPO.out.armed).mono ?_
    rintro e w10 ⟨rfl, hid10, hc10⟩
    have HID10 := Lib.hid hid10
    have HC10 := Lib.hid (HC9.out.trans hc10)
    clear hid10 hc10 HID9 HC9
    by_cases ha : D.armed = 1
    · have HW : Hid (D.write f s = ((D.put f s).tick.died D.ch, 2)) := by unfold Hid Dk.write; rw [if_pos ha]
      have hdd : decide ((D.put f s).armed = 1) = true := decide_eq_true ha
      rw [hdd]
      obtain ⟨cv, c2, hcv⟩ := HID10.out.chs
      have HD := Lib.hid (rdieW HID10.out HPO.out.tick cv D.ch hcv HPO.out.chl)
      obtain ⟨q, qc, rfl, _⟩ := hcv
      clear hdd ha
      go_wp2_with fail
      refine HD.out.mono ?_
      rintro e w11 ⟨rfl, hid11, hc11⟩
      have H11 := Lib.hid (And.intro hid11 (HC10.out.trans hc11))
      clear hid11 hc11 HC10 HID10 c2 HD
      go_wp2_with fail
      go_ret
      unfold RPost
      rw [HW.out]
      exact ⟨rfl, H11.out⟩
    · have HW : Hid (D.write f s = ((D.put f s).tick, 0)) := by unfold Hid Dk.write; rw [if_neg ha]
      have hdd : decide ((D.put f s).armed = 1) = false := decide_eq_false ha
      rw [hdd]
      clear hdd ha
      go_wp2_with fail
      go_ret
      unfold RPost
      rw [HW.out]
      exact ⟨rfl, ⟨g9, cap9, HID10.out⟩, HC10.out⟩
end Go.Proofs.Ytennhmnmoamleaa
