/- Walks of the program's disk: Crash, Write, Sync, Cut. -/
import Derived.Test.YtamaefnlicloaaaDoorDWalk3
import Derived.Deep.RegionLawGrows
import Derived.Deep.RegionHeld3
import Derived.Deep.RegionLaw
import Derived.Shelf.Abstract
namespace Go.Proofs.YtamaefnlicloaaaDoor
set_option linter.unusedVariables false
open Go.RowKit
set_option maxHeartbeats 400000 in
theorem crashDead {b g cap : Nat} {D : Dk} {w : World} (h : IsDisk w b g cap D) (hd : D.dead = true) (cv : Value) :
    Calls Tryd.prog 28 #[.pointer (some ⟨b, 0, none⟩), cv] w fun e w' => e = .returned (.int .i64 2) ∧ w = w' := by
  have h1 := h.cells.2.2.2
  rw [hd] at h1
  clear h hd
  go_enter Tryd.func28, Tryd.ntmps28
  go_wp2_with fail
  go_ret
  exact ⟨rfl, rfl⟩
set_option maxHeartbeats 400000 in
theorem crashW {b g cap : Nat} {D : Dk} {w : World} (h : IsDisk w b g cap D) (hok : DOk D) (hd : D.dead = false) (cv : Value) (css : List (List Int)) (hcs : Rss w cv css) (hcl : ∀ i, (css.getD i []).length ≤ 140737488355328) :
    Calls Tryd.prog 28 #[.pointer (some ⟨b, 0, none⟩), cv] w fun e w' => e = .returned (.int .i64 0) ∧ IsDisk w' b g cap (D.died css) ∧ Chg (fun k => k = b ∨ k = g) w w' := by
  have HA := Lib.hid (diesW h hok cv css hcs hcl)
  have h1 := h.cells.2.2.2
  rw [hd] at h1
  clear h hd hok hcs hcl
  go_enter Tryd.func28, Tryd.ntmps28
  go_wp2_with fail
  refine HA.out.mono ?_
  rintro e w1 ⟨rfl, hid, hc⟩
  have H := Lib.hid (And.intro hid hc)
  clear hid hc
  go_wp2_with fail
  go_ret
  exact ⟨rfl, H.out⟩
set_option maxHeartbeats 400000 in
theorem clipW (p : Option Addr) (n c : Nat) (w : World) (h : n ≤ c) (hc : c ≤ 9223372036854775807) :
    Calls Tryd.prog 65 #[.slice p n c] w fun e w' => e = .returned (.slice p n n) ∧ w = w' := by
  go_enter Tryd.func65, Tryd.ntmps65
  go_wp2_with fail
  go_ret
  exact ⟨rfl, rfl⟩
/-- A call of a Go function, as one step of a region that draws. -/
theorem step_calls {P : Program} {ops : Array Oper} {o : Oper} {a : Act} {w : World} {K : Act → World → Prop} {Q : Exit → Act → World → Prop} {E : Prop} (hgd : o.guard = none) (f : FuncId) (xs : Array Operand) (ats : Array TypeId)
    (ho : o.op = .call { callee := .value (.func f), args := xs, argTypes := ats }) (args : Array Value) (hargs : xs.map a.eval = args) (hent : ∀ args w, (callFunc f args).run P w = .ok (.enter f args) w) (v : Value) (R : World → Prop)
    (hc : Calls P f args w fun e w' => e = .returned v ∧ R w') (h : ∀ w', R w' → K (a.put o.dst v) w') :
    if Region.wanted o (yielded ops a.tmps) = true then Oper.wp P o a w K Q else E := by
  rw [if_pos (by simp [Region.wanted, hgd])]
  have hrun : (execOp a.eval o).run P w = .ok (.enter f args) w := by
    have e : execOp a.eval o = callFunc f (#[] ++ xs.map a.eval ++ #[]) := by
      obtain ⟨dst, op, ty, pos, after, guard⟩ := o
      simp only at ho
      subst ho
      rfl
    rw [e, hargs]
    simpa using hent args w
  unfold Oper.wp
  rw [hrun]
  refine hc.mono ?_
  rintro e w' ⟨rfl, hr⟩
  exact h w' hr
/-- A change is counted. -/
def Dk.tick (D : Dk) : Dk := ⟨D.l, D.armed - 1, D.ch, D.dead⟩
theorem goesW {b g cap : Nat} {D : Dk} {w : World} (h : IsDisk w b g cap D) (hn : D.armed ≤ 9223372036854775807) :
    Calls Tryd.prog 61 #[.pointer (some ⟨b, 0, none⟩)] w fun e w' => e = .returned (.bool (decide (D.armed = 1))) ∧ IsDisk w' b g cap D.tick ∧ Chg (fun k => k = b) w w' := by
  obtain ⟨n, hA⟩ : ∃ n, D.armed = n := ⟨_, rfl⟩
  cases n with
  | zero =>
    refine (goesNo h hA).mono fun e w' ⟨h1, h2⟩ => ?_
    subst h2
    have hd : decide (D.armed = 1) = false := by rw [hA]; decide
    rw [hd]
    refine ⟨h1, ?_, Chg.refl _ _⟩
    have e : D.tick = D := by unfold Dk.tick; rw [hA]; cases D; simp_all
    rw [e]; exact h
  | succ n =>
    refine (goesYes h n hA (by omega)).mono fun e w' ⟨h1, h2, h3⟩ => ?_
    have hd : decide (D.armed = 1) = decide (n = 0) := by rw [hA]; by_cases h : n = 0 <;> simp [h]
    rw [hd]
    refine ⟨h1, ?_, h3⟩
    have e : D.tick = ⟨D.l, n, D.ch, D.dead⟩ := by unfold Dk.tick; rw [hA]; rfl
    rw [e]; exact h2
/-- A write is put behind a file's others. -/
def Dk.put (D : Dk) (f : Nat) (s : ByteArray) : Dk := ⟨D.l.set f ⟨(D.l.getD f Fl.zero).safe, (D.l.getD f Fl.zero).ws ++ [s]⟩, D.armed, D.ch, D.dead⟩
def Dk.write (D : Dk) (f : Nat) (s : ByteArray) : Dk × Int := if D.armed = 1 then ((D.put f s).tick.died D.ch, 2) else ((D.put f s).tick, 0)
theorem DOk.tick {D : Dk} (h : DOk D) : DOk D.tick := ⟨h.n, h.pos, h.size, h.many, by have := h.armed; unfold Dk.tick; dsimp only; omega, h.chl⟩
theorem DOk.setf {D : Dk} (h : DOk D) (f : Nat) (x : Fl) (hx : (rd x).size ≤ 262144) (hm : x.ws.length ≤ 1099511627776) : DOk ⟨D.l.set f x, D.armed, D.ch, D.dead⟩ := by
  refine ⟨by rw [List.length_set]; exact h.n, by rw [List.length_set]; exact h.pos, fun i hi => ?_, fun i hi => ?_, h.armed, h.chl⟩
  · rw [List.length_set] at hi
    by_cases e : f = i
    · subst e; rw [getD_set_self _ _ _ _ hi]; exact hx
    · rw [getD_set_ne _ _ _ _ _ e]; exact h.size i hi
  · rw [List.length_set] at hi
    by_cases e : f = i
    · subst e; rw [getD_set_self _ _ _ _ hi]; exact hm
    · rw [getD_set_ne _ _ _ _ _ e]; exact h.many i hi
theorem died_getD (D : Dk) (css : List (List Int)) (i : Nat) (h : i < D.l.length) : (D.died css).l.getD i Fl.zero = ⟨left (D.l.getD i Fl.zero) (css.getD i []), []⟩ := by
  unfold Dk.died
  dsimp only
  rw [List.getD_eq_getElem?_getD, List.getElem?_map, List.getElem?_eq_getElem (by rw [length_after]; exact h)]
  have := getD_after D css i h
  rw [List.getD_eq_getElem?_getD, List.getElem?_eq_getElem (by rw [length_after]; exact h)] at this
  show Fl.mk _ _ = _
  congr 1
theorem length_died (D : Dk) (css : List (List Int)) : (D.died css).l.length = D.l.length := by unfold Dk.died; dsimp only; rw [List.length_map, length_after]
theorem DOk.died {D : Dk} (h : DOk D) (css : List (List Int)) : DOk (D.died css) := by
  refine ⟨by rw [length_died]; exact h.n, by rw [length_died]; exact h.pos, fun i hi => ?_, fun i hi => ?_, by unfold Dk.died; exact Nat.zero_le _, h.chl⟩
  · rw [length_died] at hi
    rw [died_getD D css i hi, rd_safe]
    have h1 := size_left (D.l.getD i Fl.zero) (css.getD i [])
    have h2 := h.size i hi
    omega
  · rw [length_died] at hi
    rw [died_getD D css i hi]
    exact Nat.zero_le _
theorem rd_put (x : Fl) (s : ByteArray) : (rd ⟨x.safe, x.ws ++ [s]⟩).size = (rd x).size + s.size := by
  rw [size_rd, size_rd, cat_append, List.length_append]
  have : (cat [s]).length = s.size := by rw [cat_cons, cat_nil, List.append_nil, length_bs]
  dsimp only
  omega
theorem DOk.put {D : Dk} (h : DOk D) (f : Nat) (s : ByteArray) (hs : (rd (D.l.getD f Fl.zero)).size + s.size ≤ 262144) (hm : (D.l.getD f Fl.zero).ws.length < 1099511627776) : DOk (D.put f s) :=
  h.setf f _ (by rw [rd_put]; exact hs) (by rw [List.length_append]; exact hm)
set_option maxRecDepth 100000 in
set_option maxHeartbeats 1600000 in
theorem writeW {b g cap : Nat} {D : Dk} {w : World} (h : IsDisk w b g cap D) (hok : DOk D) (hd : D.dead = false) (f : Nat) (hf : f < D.l.length) (s : ByteArray) (hs : (rd (D.l.getD f Fl.zero)).size + s.size ≤ 262144) (hm1 : (D.l.getD f Fl.zero).ws.length < 1099511627776) :
    Calls Tryd.prog 58 #[.pointer (some ⟨b, 0, none⟩), .int .i64 (f : Nat), .string s] w fun e w' => e = .returned (.int .i64 (D.write f s).2) ∧ IsDisk w' b g cap (D.write f s).1 ∧ Chg (fun k => k = b ∨ k = g) w w' := by
  have HR := Lib.hid (refWrite h hok hd f hf s.size (by omega))
  have HID := Lib.hid h
  have hh2 := h.fs.len
  have hh3 := h.fs.capm
  unfold maxLen at hh3
  have hgl := h.fs.lt
  have hbl := h.lt
  have hne := h.ne
  have HPO := Lib.hid (hok.put f s hs hm1)
  rw [if_neg (by omega)] at HR
  clear h hd hm1
  go_enter Tryd.func58, Tryd.ntmps58
  go_wp2_with fail
  refine HR.out.mono ?_
  rintro e w1 ⟨rfl, hb1⟩
  have hid := HID.out.below hb1
  have HID1 := Lib.hid hid
  have HC1 := Lib.hid (Chg.of_below (fun k => k = b ∨ k = g) hb1)
  have c0 := hid.cells.1
  obtain ⟨v, c1, hws⟩ := hid.fs.ws f hf
  have f1 := hid.fs.free (f * 2 + 1)
  obtain ⟨p, c, rfl, hpc⟩ := hws.form
  have HWS := Lib.hid hws
  obtain ⟨m, hm⟩ : ∃ m, m = (D.l.getD f Fl.zero).ws.length := ⟨_, rfl⟩
  rw [← hm] at c1 hpc HWS
  have HM := Lib.hid hm
  obtain ⟨hmx, hcm, hp0, hcl⟩ := HWS.out.parts
  clear hmx
  unfold maxLen at hcm
  have hmm := hok.many f hf
  have HP0 : Hid (p = none → m = 0 ∧ m = 0) := fun h => ⟨(hp0 h).1, (hp0 h).1⟩
  have HCL : Hid (∀ W', Below w1.heap.size w1 W' → ∀ b, p = some b → ∀ j u, ((D.l.getD f Fl.zero).ws.map Value.string)[j]? = some u → W'.cell? (b.add j) = some u) := fun W' hb' b hp j u hu => by
    obtain ⟨h1, h2⟩ := hcl b hp
    have h3 := h2 j u hu
    exact (hb'.cell (block_lt_of_cell h3)).trans h3
  have HLN : Hid (((D.l.getD f Fl.zero).ws.map Value.string).length = m * 1) := by unfold Hid; rw [List.length_map, ← hm]; omega
  have HNEW : Hid (∀ j u, [Value.string s][j]? = some u → ((w1.alloc (.cells #[.string s] 9)).drew).cell? ((⟨w1.heap.size, 0, none⟩ : Addr).add j) = some u) := fun j u hu => by
    have hj : j = 0 := by have := (List.getElem?_eq_some_iff.1 hu).1; simp at this; exact this
    subst hj
    rw [show u = .string s by simpa using hu.symm, show (⟨w1.heap.size, 0, none⟩ : Addr).add 0 = ⟨w1.heap.size, 0, none⟩ from rfl]
    simp
  have HBA : Hid (Below w1.heap.size w1 ((w1.alloc (.cells #[.string s] 9)).drew)) := ((Below.refl _ _).alloc (Nat.le_refl _) _).drew
  rw [← hm] at hmm
  have i1 : (0 : Int) ≤ (f : Int) := by omega
  have i2 : (f : Int) < (D.l.length : Int) := by omega
  clear hb1 hid hws hm HR hok hp0 hcl
  obtain ⟨i0, hi0, hz0, hz1, hz2⟩ := info_parts infoStr
  have hgl1 : g < w1.heap.size := HID1.out.fs.lt
  have hbl1 : b < w1.heap.size := HID1.out.lt
  have MK : Hid (∀ (v5 : Value) (w5 : World), w5.ownsRow ((w1.alloc (.cells #[.string s] 9)).drew).heap.size 9 1 v5 (m + 1) ((D.l.getD f Fl.zero).ws.map Value.string ++ [.string s]) → ((w1.alloc (.cells #[.string s] 9)).drew).grownBy w5 none →
      ∃ p5 c5, v5 = .slice p5 (m + 1) c5 ∧ w5.cell? ⟨b, 0, none⟩ = some (.slice (some ⟨g, 0, none⟩) D.l.length cap) ∧ w5.cell? ⟨g, f * 2 + 1, none⟩ = some (.slice p m c) ∧ w5.frozen? ⟨g, f * 2 + 1, none⟩ = false ∧
        Hid (IsDisk w5 b g cap D ∧ WS w5 (.slice p5 (m + 1) c5) ((D.l.getD f Fl.zero).ws ++ [s]) ∧ Below w1.heap.size w1 w5)) := fun v5 w5 ho hg => by
    have hb5 : Below w1.heap.size w1 w5 := HBA.out.trans ⟨hg.os, hg.tape, hg.output, hg.size, fun k hk => hg.block k (by have := HBA.out.size; omega) (by simp)⟩
    have hid := HID1.out.below hb5
    have hw : WS w5 v5 ((D.l.getD f Fl.zero).ws ++ [s]) := by
      have e : ((D.l.getD f Fl.zero).ws ++ [s]).length = m + 1 := by rw [List.length_append, ← HM.out]; rfl
      have h0 : OwnsS w5 ((w1.alloc (.cells #[.string s] 9)).drew).heap.size v5 ((D.l.getD f Fl.zero).ws ++ [s]) := by
        unfold OwnsS
        rw [e, List.map_append]
        exact ho
      exact h0.ws
    obtain ⟨p5, c5, hv, _⟩ := hw.form
    rw [List.length_append, ← HM.out] at hv
    have hv' : v5 = .slice p5 (m + 1) c5 := hv
    subst hv'
    exact ⟨p5, c5, rfl, (hb5.cell (p := ⟨b, 0, none⟩) hbl1).trans c0, (hb5.cell (p := ⟨g, f * 2 + 1, none⟩) hgl1).trans c1, (hb5.frozen (p := ⟨g, f * 2 + 1, none⟩) hgl1).trans f1, hid, hw, hb5⟩
  go_wp2_with fail
  go_region_law (first
    | (refine step_calls (by rfl) 65 _ _ (by rfl) #[.slice p m c] (by simp [Act.eval]) (enters_of Tryd.func65 (by kernel_rfl) rfl) (.slice p m m) _ ((clipW p m c _ hpc hcm).mono fun e w' ⟨h1, h2⟩ => ⟨h1, h2⟩) ?_; rintro _ rfl)
    | (refine step_append_grows (by rfl) _ _ 32 (by rfl) 9 i0 (.string ⟨#[]⟩) 1 16 Tryd.underlying32 hi0 hz0 hz1 hz2 rfl (by decide) p m m ((D.l.getD f Fl.zero).ws.map Value.string) (by rfl) HP0.out HLN.out (HCL.out _ HBA.out) ⟨w1.heap.size, 0, none⟩ 1 1 [.string s] (by rfl) rfl HNEW.out (by simp [Value.oneCell']) (by omega) (by unfold maxLen; omega) (by omega) ?_; intro v5 w5 ho5 hg5; obtain ⟨p5, c5, rfl, k0, k1, k2, HK⟩ := MK.out v5 w5 ho5 hg5; clear ho5 hg5))
  all_goals
    obtain ⟨hid5, hws5, hb5⟩ := HK.out
    have hid6 := hid5.files (Chg.setCell (fun k => k = g) w5 (j := f * 2 + 1) rfl (.slice p5 (m + 1) c5)) (hid5.fs.setWs hf hws5) (by rw [List.length_set])
    have HID6 : Hid (IsDisk (w5.setCell ⟨g, f * 2 + 1, none⟩ (.slice p5 (m + 1) c5)) b g cap (D.put f s)) := hid6
    have HC6 := Lib.hid (HC1.out.trans ((Chg.of_below (fun k => k = b ∨ k = g) hb5).trans (Chg.setCell (fun k => k = b ∨ k = g) w5 (j := f * 2 + 1) (.inr rfl) (.slice p5 (m + 1) c5))))
    clear hid5 hws5 hb5 hid6 HK k0 k1 k2 c0 c1 f1
    go_wp2_with fail
    refine (goesW HID6.out HPO.out.armed).mono ?_
    rintro e w7 ⟨rfl, hid7, hc7⟩
    have HID7 := Lib.hid hid7
    have HC7 := Lib.hid (HC6.out.trans (hc7.mono (fun k _ h => .inl h)))
    clear hid7 hc7 HID6 HC6
    by_cases ha : D.armed = 1
    · have HW : Hid (D.write f s = ((D.put f s).tick.died D.ch, 2)) := by unfold Hid Dk.write; rw [if_pos ha]
      have hd : decide ((D.put f s).armed = 1) = true := decide_eq_true ha
      rw [hd]
      obtain ⟨cv, c2, hcv⟩ := HID7.out.cells.2.2.1
      have HD := Lib.hid (diesW HID7.out HPO.out.tick cv D.ch hcv.rss HPO.out.chl)
      obtain ⟨q, qc, rfl, _⟩ := hcv.rss
      clear hd hcv ha
      go_wp2_with fail
      refine HD.out.mono ?_
      rintro e w8 ⟨rfl, hid8, hc8⟩
      have H8 := Lib.hid (And.intro hid8 (HC7.out.trans hc8))
      clear hid8 hc8 HC7 HID7 c2 HD
      go_wp2_with fail
      go_ret
      rw [HW.out]
      exact ⟨rfl, H8.out⟩
    · have HW : Hid (D.write f s = ((D.put f s).tick, 0)) := by unfold Hid Dk.write; rw [if_neg ha]
      have hd : decide ((D.put f s).armed = 1) = false := decide_eq_false ha
      rw [hd]
      clear hd ha
      go_wp2_with fail
      go_ret
      rw [HW.out]
      exact ⟨rfl, HID7.out, HC7.out⟩
end Go.Proofs.YtamaefnlicloaaaDoor
