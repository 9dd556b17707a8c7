/- Walks of the program's disk: Crash, Write, Sync, Cut.
   Walks of the program's disk: Sync, Cut, Read; each call whole.
   Walks of the program's disk: each call whole, refused or not. -/
import Derived.Test.YtilpbjcbffbjeaaGreatDoorPkB
import Derived.Deep.RegionLawGrows
import Derived.Deep.RegionHeld3
import Derived.Deep.RegionLaw
import Derived.Shelf.Abstract
namespace Go.Proofs.YtilpbjcbffbjeaaGreatDoor
set_option linter.unusedVariables false
open Go.RowKit
set_option linter.unusedSectionVars false
variable [Avoid]
set_option maxHeartbeats 400000 in
theorem crashDead {b g cap : Nat} {D : Dk} {w : World} (h : IsDisk w b g cap D) (hd : D.dead = true) (cv : Value) :
    Calls Tryz.prog 19 #[.pointer (some ⟨b, 0, none⟩), cv] w fun e w' => e = .returned (.int .i64 2) ∧ w = w' := by
  have h1 := h.cells.2.2.2
  rw [hd] at h1
  clear h hd
  go_enter Tryz.func19, Tryz.ntmps19
  go_wp2_with fail
  go_ret
  exact ⟨rfl, rfl⟩
set_option maxHeartbeats 400000 in
theorem crashW {b g cap : Nat} {D : Dk} {w : World} (h : IsDisk w b g cap D) (hok : DOk D) (hd : D.dead = false) (cv : Value) (css : List (List Int)) (hcs : Rss w cv css) (hcl : ∀ i, (css.getD i []).length ≤ 140737488355328) :
    Calls Tryz.prog 19 #[.pointer (some ⟨b, 0, none⟩), cv] w fun e w' => e = .returned (.int .i64 0) ∧ IsDisk w' b g cap (D.died css) ∧ Chg (fun k => k = b ∨ k = g) w w' := by
  have HA := Lib.hid (diesW h hok cv css hcs hcl)
  have h1 := h.cells.2.2.2
  rw [hd] at h1
  clear h hd hok hcs hcl
  go_enter Tryz.func19, Tryz.ntmps19
  go_wp2_with fail
  refine HA.out.mono ?_
  rintro e w1 ⟨rfl, hid, hc⟩
  have H := Lib.hid (And.intro hid hc)
  clear hid hc
  go_wp2_with fail
  go_ret
  exact ⟨rfl, H.out⟩
set_option maxHeartbeats 400000 in
theorem clipW (p : Option Addr) (n c : Nat) (w : World) (h : n ≤ c) (hc : c ≤ 9223372036854775807) :
    Calls Tryz.prog 63 #[.slice p n c] w fun e w' => e = .returned (.slice p n n) ∧ w = w' := by
  go_enter Tryz.func63, Tryz.ntmps63
  go_wp2_with fail
  go_ret
  exact ⟨rfl, rfl⟩
/-- A call of a Go function, as one step of a region that draws. -/
theorem step_calls {P : Program} {ops : Array Oper} {o : Oper} {a : Act} {w : World} {K : Act → World → Prop} {Q : Exit → Act → World → Prop} {E : Prop} (hgd : o.guard = none) (f : FuncId) (xs : Array Operand) (ats : Array TypeId)
    (ho : o.op = .call { callee := .value (.func f), args := xs, argTypes := ats }) (args : Array Value) (hargs : xs.map a.eval = args) (hent : ∀ args w, (callFunc f args).run P w = .ok (.enter f args) w) (v : Value) (R : World → Prop)
    (hc : Calls P f args w fun e w' => e = .returned v ∧ R w') (h : ∀ w', R w' → K (a.put o.dst v) w') :
    if Region.wanted o (yielded ops a.tmps) = true then Oper.wp P o a w K Q else E := by
  rw [if_pos (by simp [Region.wanted, hgd])]
  have hrun : (execOp a.eval o).run P w = .ok (.enter f args) w := by
    have e : execOp a.eval o = callFunc f (#[] ++ xs.map a.eval ++ #[]) := by
      obtain ⟨dst, op, ty, pos, after, guard⟩ := o
      simp only at ho
      subst ho
      rfl
    rw [e, hargs]
    simpa using hent args w
  unfold Oper.wp
  rw [hrun]
  refine hc.mono ?_
  rintro e w' ⟨rfl, hr⟩
  exact h w' hr
/-- A change is counted. -/
def Dk.tick (D : Dk) : Dk := ⟨D.l, D.armed - 1, D.ch, D.dead⟩
theorem goesW {b g cap : Nat} {D : Dk} {w : World} (h : IsDisk w b g cap D) (hn : D.armed ≤ 9223372036854775807) :
    Calls Tryz.prog 88 #[.pointer (some ⟨b, 0, none⟩)] w fun e w' => e = .returned (.bool (decide (D.armed = 1))) ∧ IsDisk w' b g cap D.tick ∧ Chg (fun k => k = b) w w' := by
  obtain ⟨n, hA⟩ : ∃ n, D.armed = n := ⟨_, rfl⟩
  cases n with
  | zero =>
    refine (goesNo h hA).mono fun e w' ⟨h1, h2⟩ => ?_
    subst h2
    have hd : decide (D.armed = 1) = false := by rw [hA]; decide
    rw [hd]
    refine ⟨h1, ?_, Chg.refl _ _⟩
    have e : D.tick = D := by unfold Dk.tick; rw [hA]; cases D; simp_all
    rw [e]; exact h
  | succ n =>
    refine (goesYes h n hA (by omega)).mono fun e w' ⟨h1, h2, h3⟩ => ?_
    have hd : decide (D.armed = 1) = decide (n = 0) := by rw [hA]; by_cases h : n = 0 <;> simp [h]
    rw [hd]
    refine ⟨h1, ?_, h3⟩
    have e : D.tick = ⟨D.l, n, D.ch, D.dead⟩ := by unfold Dk.tick; rw [hA]; rfl
    rw [e]; exact h2
/-- A write is put behind a file's others. -/
def Dk.put (D : Dk) (f : Nat) (s : ByteArray) : Dk := ⟨D.l.set f ⟨(D.l.getD f Fl.zero).safe, (D.l.getD f Fl.zero).ws ++ [s]⟩, D.armed, D.ch, D.dead⟩
def Dk.write (D : Dk) (f : Nat) (s : ByteArray) : Dk × Int := if D.armed = 1 then ((D.put f s).tick.died D.ch, 2) else ((D.put f s).tick, 0)
theorem DOk.tick {D : Dk} (h : DOk D) : DOk D.tick := ⟨h.n, h.pos, h.size, h.many, by have := h.armed; unfold Dk.tick; dsimp only; omega, h.chl⟩
theorem DOk.setf {D : Dk} (h : DOk D) (f : Nat) (x : Fl) (hx : (rd x).size ≤ 262144) (hm : x.ws.length ≤ 1099511627776) : DOk ⟨D.l.set f x, D.armed, D.ch, D.dead⟩ := by
  refine ⟨by rw [List.length_set]; exact h.n, by rw [List.length_set]; exact h.pos, fun i hi => ?_, fun i hi => ?_, h.armed, h.chl⟩
  · rw [List.length_set] at hi
    by_cases e : f = i
    · subst e; rw [getD_set_self _ _ _ _ hi]; exact hx
    · rw [getD_set_ne _ _ _ _ _ e]; exact h.size i hi
  · rw [List.length_set] at hi
    by_cases e : f = i
    · subst e; rw [getD_set_self _ _ _ _ hi]; exact hm
    · rw [getD_set_ne _ _ _ _ _ e]; exact h.many i hi
theorem died_getD (D : Dk) (css : List (List Int)) (i : Nat) (h : i < D.l.length) : (D.died css).l.getD i Fl.zero = ⟨left (D.l.getD i Fl.zero) (css.getD i []), []⟩ := by
  unfold Dk.died
  dsimp only
  rw [List.getD_eq_getElem?_getD, List.getElem?_map, List.getElem?_eq_getElem (by rw [length_after]; exact h)]
  have := getD_after D css i h
  rw [List.getD_eq_getElem?_getD, List.getElem?_eq_getElem (by rw [length_after]; exact h)] at this
  show Fl.mk _ _ = _
  congr 1
theorem length_died (D : Dk) (css : List (List Int)) : (D.died css).l.length = D.l.length := by unfold Dk.died; dsimp only; rw [List.length_map, length_after]
theorem DOk.died {D : Dk} (h : DOk D) (css : List (List Int)) : DOk (D.died css) := by
  refine ⟨by rw [length_died]; exact h.n, by rw [length_died]; exact h.pos, fun i hi => ?_, fun i hi => ?_, by unfold Dk.died; exact Nat.zero_le _, h.chl⟩
  · rw [length_died] at hi
    rw [died_getD D css i hi, rd_safe]
    have h1 := size_left (D.l.getD i Fl.zero) (css.getD i [])
    have h2 := h.size i hi
    omega
  · rw [length_died] at hi
    rw [died_getD D css i hi]
    exact Nat.zero_le _
theorem rd_put (x : Fl) (s : ByteArray) : (rd ⟨x.safe, x.ws ++ [s]⟩).size = (rd x).size + s.size := by
  rw [size_rd, size_rd, cat_append, List.length_append]
  have : (cat [s]).length = s.size := by rw [cat_cons, cat_nil, List.append_nil, length_bs]
  dsimp only
  omega
theorem DOk.put {D : Dk} (h : DOk D) (f : Nat) (s : ByteArray) (hs : (rd (D.l.getD f Fl.zero)).size + s.size ≤ 262144) (hm : (D.l.getD f Fl.zero).ws.length < 1099511627776) : DOk (D.put f s) :=
  h.setf f _ (by rw [rd_put]; exact hs) (by rw [List.length_append]; exact hm)
set_option maxRecDepth 100000 in
set_option maxHeartbeats 1600000 in
theorem writeW {b g cap : Nat} {D : Dk} {w : World} (h : IsDisk w b g cap D) (hok : DOk D) (hd : D.dead = false) (f : Nat) (hf : f < D.l.length) (s : ByteArray) (hs : (rd (D.l.getD f Fl.zero)).size + s.size ≤ 262144) (hm1 : (D.l.getD f Fl.zero).ws.length < 1099511627776) :
    Calls Tryz.prog 62 #[.pointer (some ⟨b, 0, none⟩), .int .i64 (f : Nat), .string s] w fun e w' => e = .returned (.int .i64 (D.write f s).2) ∧ IsDisk w' b g cap (D.write f s).1 ∧ Chg (fun k => k = b ∨ k = g) w w' := by
  have HR := Lib.hid (refWrite h hok hd f hf s.size (by omega))
  have HID := Lib.hid h
  have hh2 := h.fs.len
  have hh3 := h.fs.capm
  unfold maxLen at hh3
  have hgl := h.fs.lt
  have hbl := h.lt
  have hne := h.ne
  have HPO := Lib.hid (hok.put f s hs hm1)
  rw [if_neg (by omega)] at HR
  clear h hd hm1
  go_enter Tryz.func62, Tryz.ntmps62
  go_wp2_with fail
  refine HR.out.mono ?_
  rintro e w1 ⟨rfl, hb1⟩
  have hid := HID.out.below hb1
  have HID1 := Lib.hid hid
  have HC1 := Lib.hid (Chg.of_below (fun k => k = b ∨ k = g) hb1)
  have c0 := hid.cells.1
  obtain ⟨v, c1, hws⟩ := hid.fs.ws f hf
  have f1 := hid.fs.free (f * 2 + 1)
  obtain ⟨p, c, rfl, hpc⟩ := hws.form
  have HWS := Lib.hid hws
  obtain ⟨m, hm⟩ : ∃ m, m = (D.l.getD f Fl.zero).ws.length := ⟨_, rfl⟩
  rw [← hm] at c1 hpc HWS
  have HM := Lib.hid hm
  obtain ⟨hmx, hcm, hp0, hcl⟩ := HWS.out.parts
  clear hmx
  unfold maxLen at hcm
  have hmm := hok.many f hf
  have HP0 : Hid (p = none → m = 0 ∧ m = 0) := fun h => ⟨(hp0 h).1, (hp0 h).1⟩
  have HCL : Hid (∀ W', Below w1.heap.size w1 W' → ∀ b, p = some b → ∀ j u, ((D.l.getD f Fl.zero).ws.map Value.string)[j]? = some u → W'.cell? (b.add j) = some u) := fun W' hb' b hp j u hu => by
    obtain ⟨h1, h2⟩ := hcl b hp
    have h3 := h2 j u hu
    exact (hb'.cell (block_lt_of_cell h3)).trans h3
  have HLN : Hid (((D.l.getD f Fl.zero).ws.map Value.string).length = m * 1) := by unfold Hid; rw [List.length_map, ← hm]; omega
  have HNEW : Hid (∀ j u, [Value.string s][j]? = some u → ((w1.alloc (.cells #[.string s] 9)).drew).cell? ((⟨w1.heap.size, 0, none⟩ : Addr).add j) = some u) := fun j u hu => by
    have hj : j = 0 := by have := (List.getElem?_eq_some_iff.1 hu).1; simp at this; exact this
    subst hj
    rw [show u = .string s by simpa using hu.symm, show (⟨w1.heap.size, 0, none⟩ : Addr).add 0 = ⟨w1.heap.size, 0, none⟩ from rfl]
    simp
  have HBA : Hid (Below w1.heap.size w1 ((w1.alloc (.cells #[.string s] 9)).drew)) := ((Below.refl _ _).alloc (Nat.le_refl _) _).drew
  rw [← hm] at hmm
  have i1 : (0 : Int) ≤ (f : Int) := by omega
  have i2 : (f : Int) < (D.l.length : Int) := by omega
  clear hb1 hid hws hm HR hok hp0 hcl
  obtain ⟨i0, hi0, hz0, hz1, hz2⟩ := info_parts infoStr
  have hgl1 : g < w1.heap.size := HID1.out.fs.lt
  have hbl1 : b < w1.heap.size := HID1.out.lt
  have MK : Hid (∀ (v5 : Value) (w5 : World), w5.ownsRow ((w1.alloc (.cells #[.string s] 9)).drew).heap.size 9 1 v5 (m + 1) ((D.l.getD f Fl.zero).ws.map Value.string ++ [.string s]) → ((w1.alloc (.cells #[.string s] 9)).drew).grownBy w5 none →
      ∃ p5 c5, v5 = .slice p5 (m + 1) c5 ∧ w5.cell? ⟨b, 0, none⟩ = some (.slice (some ⟨g, 0, none⟩) D.l.length cap) ∧ w5.cell? ⟨g, f * 2 + 1, none⟩ = some (.slice p m c) ∧ w5.frozen? ⟨g, f * 2 + 1, none⟩ = false ∧
        Hid (IsDisk w5 b g cap D ∧ WS w5 (.slice p5 (m + 1) c5) ((D.l.getD f Fl.zero).ws ++ [s]) ∧ Below w1.heap.size w1 w5)) := fun v5 w5 ho hg => by
    have hb5 : Below w1.heap.size w1 w5 := HBA.out.trans ⟨hg.os, hg.tape, hg.output, hg.size, fun k hk => hg.block k (by have := HBA.out.size; omega) (by simp)⟩
    have hid := HID1.out.below hb5
    have hw : WS w5 v5 ((D.l.getD f Fl.zero).ws ++ [s]) := by
      have e : ((D.l.getD f Fl.zero).ws ++ [s]).length = m + 1 := by rw [List.length_append, ← HM.out]; rfl
      have h0 : OwnsS w5 ((w1.alloc (.cells #[.string s] 9)).drew).heap.size v5 ((D.l.getD f Fl.zero).ws ++ [s]) := by
        unfold OwnsS
        rw [e, List.map_append]
        exact ho
      exact h0.wsG (Nat.le_trans HID1.out.gb (Nat.le_trans HBA.out.size (Nat.le_refl _)))
    obtain ⟨p5, c5, hv, _⟩ := hw.form
    rw [List.length_append, ← HM.out] at hv
    have hv' : v5 = .slice p5 (m + 1) c5 := hv
    subst hv'
    exact ⟨p5, c5, rfl, (hb5.cell (p := ⟨b, 0, none⟩) hbl1).trans c0, (hb5.cell (p := ⟨g, f * 2 + 1, none⟩) hgl1).trans c1, (hb5.frozen (p := ⟨g, f * 2 + 1, none⟩) hgl1).trans f1, hid, hw, hb5⟩
  go_wp2_with fail
  go_region_law (first
    | (refine step_calls (by rfl) 63 _ _ (by rfl) #[.slice p m c] (by simp [Act.eval]) (enters_of Tryz.func63 (by kernel_rfl) rfl) (.slice p m m) _ ((clipW p m c _ hpc hcm).mono fun e w' ⟨h1, h2⟩ => ⟨h1, h2⟩) ?_; rintro _ rfl)
    | (refine step_append_grows (by rfl) _ _ 28 (by rfl) 9 i0 (.string ⟨#[]⟩) 1 16 Tryz.underlying28 hi0 hz0 hz1 hz2 rfl (by decide) p m m ((D.l.getD f Fl.zero).ws.map Value.string) (by rfl) HP0.out HLN.out (HCL.out _ HBA.out) ⟨w1.heap.size, 0, none⟩ 1 1 [.string s] (by rfl) rfl HNEW.out (by simp [Value.oneCell']) (by omega) (by unfold maxLen; omega) (by omega) ?_; intro v5 w5 ho5 hg5; obtain ⟨p5, c5, rfl, k0, k1, k2, HK⟩ := MK.out v5 w5 ho5 hg5; clear ho5 hg5))
  all_goals
    obtain ⟨hid5, hws5, hb5⟩ := HK.out
    have hid6 := hid5.files (Chg.setCell (fun k => k = g) w5 (j := f * 2 + 1) rfl (.slice p5 (m + 1) c5)) (hid5.fs.setWs hf hws5) (by rw [List.length_set])
    have HID6 : Hid (IsDisk (w5.setCell ⟨g, f * 2 + 1, none⟩ (.slice p5 (m + 1) c5)) b g cap (D.put f s)) := hid6
    have HC6 := Lib.hid (HC1.out.trans ((Chg.of_below (fun k => k = b ∨ k = g) hb5).trans (Chg.setCell (fun k => k = b ∨ k = g) w5 (j := f * 2 + 1) (.inr rfl) (.slice p5 (m + 1) c5))))
    clear hid5 hws5 hb5 hid6 HK k0 k1 k2 c0 c1 f1
    go_wp2_with fail
    refine (goesW HID6.out HPO.out.armed).mono ?_
    rintro e w7 ⟨rfl, hid7, hc7⟩
    have HID7 := Lib.hid hid7
    have HC7 := Lib.hid (HC6.out.trans (hc7.mono (fun k _ h => .inl h)))
    clear hid7 hc7 HID6 HC6
    by_cases ha : D.armed = 1
    · have HW : Hid (D.write f s = ((D.put f s).tick.died D.ch, 2)) := by unfold Hid Dk.write; rw [if_pos ha]
      have hd : decide ((D.put f s).armed = 1) = true := decide_eq_true ha
      rw [hd]
      obtain ⟨cv, c2, hcv⟩ := HID7.out.cells.2.2.1
      have HD := Lib.hid (diesW HID7.out HPO.out.tick cv D.ch hcv.rss HPO.out.chl)
      obtain ⟨q, qc, rfl, _⟩ := hcv.rss
      clear hd hcv ha
      go_wp2_with fail
      refine HD.out.mono ?_
      rintro e w8 ⟨rfl, hid8, hc8⟩
      have H8 := Lib.hid (And.intro hid8 (HC7.out.trans hc8))
      clear hid8 hc8 HC7 HID7 c2 HD
      go_wp2_with fail
      go_ret
      rw [HW.out]
      exact ⟨rfl, H8.out⟩
    · have HW : Hid (D.write f s = ((D.put f s).tick, 0)) := by unfold Hid Dk.write; rw [if_neg ha]
      have hd : decide ((D.put f s).armed = 1) = false := decide_eq_false ha
      rw [hd]
      clear hd ha
      go_wp2_with fail
      go_ret
      rw [HW.out]
      exact ⟨rfl, HID7.out, HC7.out⟩
end Go.Proofs.YtilpbjcbffbjeaaGreatDoor
namespace Go.Proofs.YtilpbjcbffbjeaaGreatDoor
open Go.RowKit
set_option linter.unusedSectionVars false
variable [Avoid]
def Dk.setf (D : Dk) (f : Nat) (x : Fl) : Dk := ⟨D.l.set f x, D.armed, D.ch, D.dead⟩
def Dk.sync (D : Dk) (f : Nat) : Dk × Int := if D.armed = 1 then (D.tick.died D.ch, 2) else (D.tick.setf f ⟨rd (D.l.getD f Fl.zero), []⟩, 0)
def Dk.cut (D : Dk) (f : Nat) (n : Nat) : Dk × Int := if D.armed = 1 then (D.tick.died D.ch, 2) else (D.tick.setf f ⟨(D.l.getD f Fl.zero).safe.extract 0 n, (D.l.getD f Fl.zero).ws⟩, 0)
set_option maxRecDepth 100000 in
set_option maxHeartbeats 1600000 in
theorem syncW {b g cap : Nat} {D : Dk} {w : World} (h : IsDisk w b g cap D) (hok : DOk D) (hd : D.dead = false) (f : Nat) (hf : f < D.l.length) :
    Calls Tryz.prog 53 #[.pointer (some ⟨b, 0, none⟩), .int .i64 (f : Nat)] w fun e w' => e = .returned (.int .i64 (D.sync f).2) ∧ IsDisk w' b g cap (D.sync f).1 ∧ Chg (fun k => k = b ∨ k = g) w w' := by
  have HR := Lib.hid (refRead h hd f hf 0)
  have HG := Lib.hid (goesW h hok.armed)
  have HOK := Lib.hid hok
  have hh2 := h.fs.len
  have hh3 := h.fs.capm
  unfold maxLen at hh3
  clear h hok hd
  go_enter Tryz.func53, Tryz.ntmps53
  go_wp2_with fail
  refine HR.out.mono ?_
  rintro e w' ⟨rfl, rfl⟩
  go_wp2_with fail
  refine HG.out.mono ?_
  rintro e w1 ⟨rfl, hid, hc⟩
  have HC1 := Lib.hid (hc.mono (S' := fun k => k = b ∨ k = g) (fun k _ h => .inl h))
  have HID := Lib.hid hid
  clear hid hc HG HR
  by_cases ha : D.armed = 1
  · have HW : Hid (D.sync f = (D.tick.died D.ch, 2)) := by unfold Hid Dk.sync; rw [if_pos ha]
    have hd : decide (D.armed = 1) = true := decide_eq_true ha
    rw [hd]
    obtain ⟨cv, c2, hcv⟩ := HID.out.cells.2.2.1
    have HD := Lib.hid (diesW HID.out HOK.out.tick cv D.ch hcv.rss HOK.out.chl)
    obtain ⟨q, qc, rfl, _⟩ := hcv.rss
    clear hd hcv ha
    go_wp2_with fail
    refine HD.out.mono ?_
    rintro e w8 ⟨rfl, hid8, hc8⟩
    have H8 := Lib.hid (And.intro hid8 (HC1.out.trans hc8))
    clear hid8 hc8 HID c2 HD
    go_wp2_with fail
    go_ret
    rw [HW.out]
    exact ⟨rfl, H8.out⟩
  · have HW : Hid (D.sync f = (D.tick.setf f ⟨rd (D.l.getD f Fl.zero), []⟩, 0)) := by unfold Hid Dk.sync; rw [if_neg ha]
    have hd : decide (D.armed = 1) = false := decide_eq_false ha
    rw [hd]
    have c0 : ∀ t : Grow w1, t.val.cell? ⟨b, 0, none⟩ = some (.slice (some ⟨g, 0, none⟩) D.l.length cap) := fun t => t.cell HID.out.cells.1
    have hsz := HOK.out.size f hf
    have hmn := HOK.out.many f hf
    have h1 := HID.out.fs.safe f hf
    obtain ⟨v, h2, hws⟩ := HID.out.fs.ws f hf
    obtain ⟨x, hx⟩ : ∃ x, x = D.l.getD f Fl.zero := ⟨_, rfl⟩
    have hx2 : x = D.tick.l.getD f Fl.zero := hx
    rw [← hx] at hsz hmn HW
    rw [← hx2] at h1 hws
    obtain ⟨p, c, rfl, _⟩ := hws.form
    have C1 : Hid (∀ t : Grow w1, Calls Tryz.prog 70 #[.agg #[.string x.safe, .slice p x.ws.length c]] t.val fun e w' => e = .returned (.string (rd x)) ∧ Below t.val.heap.size t.val w') := fun t => readW x _ t.val (hws.below t.below) (by omega) (by omega)
    obtain ⟨m, hm⟩ : ∃ m, m = x.ws.length := ⟨_, rfl⟩
    rw [← hm] at h2 C1
    have c1 : ∀ t : Grow w1, t.val.cell? ⟨g, f * 2, none⟩ = some (.string x.safe) := fun t => t.cell h1
    have c2 : ∀ t : Grow w1, t.val.cell? ⟨g, f * 2 + 1, none⟩ = some (.slice p m c) := fun t => t.cell h2
    have i1 : (0 : Int) ≤ (f : Int) := by omega
    have i2 : (f : Int) < (D.l.length : Int) := by omega
    clear hd ha hsz hmn h1 hws hx hx2 hm h2
    go_wp2_with fail
    refine wp_region_fam_tail 15 (by kernel_rfl) (by kernel_rfl) Grow.val (Grow.start w1) ?_
    simp only [List.take_succ_cons, List.take_zero, List.drop_succ_cons, List.drop_zero]
    repeat go_big_quiet_step ((with_reducible refine Calls.fam_of (C1.out _) (Grow.more _)))
    refine wpQuiet_nil ?_
    intro t
    have hid5 := HID.out.below t.below
    have k1 := c1 t
    have k2 := c2 t
    have f1 := hid5.fs.free (f * 2)
    have f2 := hid5.fs.free (f * 2 + 1)
    have hid6 := hid5.files (l' := D.tick.l.set f ⟨rd x, []⟩) ((Chg.setCell (fun k => k = g) t.val (j := f * 2) rfl (.string (rd x))).trans (Chg.setCell (fun k => k = g) _ (j := f * 2 + 1) rfl (.slice none 0 0))) (hid5.fs.setBoth (f := f) hf (rd x)) (by rw [List.length_set])
    have HID6 := Lib.hid hid6
    have HC6 := Lib.hid (HC1.out.trans ((Chg.of_below (fun k => k = b ∨ k = g) t.below).trans ((Chg.setCell (fun k => k = b ∨ k = g) t.val (j := f * 2) (.inr rfl) (.string (rd x))).trans (Chg.setCell (fun k => k = b ∨ k = g) _ (j := f * 2 + 1) (.inr rfl) (.slice none 0 0)))))
    clear c0 c1 c2 C1 hid5 hid6
    go_wp2_with fail
    go_ret
    rw [HW.out]
    exact ⟨rfl, HID6.out, HC6.out⟩
set_option maxRecDepth 100000 in
set_option maxHeartbeats 1600000 in
theorem cutW {b g cap : Nat} {D : Dk} {w : World} (h : IsDisk w b g cap D) (hok : DOk D) (hd : D.dead = false) (f : Nat) (hf : f < D.l.length) (n : Nat) (hw0 : (D.l.getD f Fl.zero).ws.length = 0) (hn : n ≤ (D.l.getD f Fl.zero).safe.size) :
    Calls Tryz.prog 56 #[.pointer (some ⟨b, 0, none⟩), .int .i64 (f : Nat), .int .i64 (n : Nat)] w fun e w' => e = .returned (.int .i64 (D.cut f n).2) ∧ IsDisk w' b g cap (D.cut f n).1 ∧ Chg (fun k => k = b ∨ k = g) w w' := by
  have HR := Lib.hid (refCut h hok hd f hf n hw0 (by omega) (by omega))
  have HI := Lib.hid h
  have HOK := Lib.hid hok
  have hh2 := h.fs.len
  have hh3 := h.fs.capm
  unfold maxLen at hh3
  clear h hok hd
  go_enter Tryz.func56, Tryz.ntmps56
  go_wp2_with fail
  refine HR.out.mono ?_
  rintro e w0 ⟨rfl, hb0⟩
  have HG := Lib.hid (goesW (HI.out.below hb0) HOK.out.armed)
  have HC0 := Lib.hid (Chg.of_below (fun k => k = b ∨ k = g) hb0)
  clear hb0 HI HR
  go_wp2_with fail
  refine HG.out.mono ?_
  rintro e w1 ⟨rfl, hid, hc⟩
  have HC1 := Lib.hid (HC0.out.trans (hc.mono (S' := fun k => k = b ∨ k = g) (fun k _ h => .inl h)))
  have HID := Lib.hid hid
  clear hid hc HG HC0
  by_cases ha : D.armed = 1
  · have HW : Hid (D.cut f n = (D.tick.died D.ch, 2)) := by unfold Hid Dk.cut; rw [if_pos ha]
    have hd : decide (D.armed = 1) = true := decide_eq_true ha
    rw [hd]
    obtain ⟨cv, c2, hcv⟩ := HID.out.cells.2.2.1
    have HD := Lib.hid (diesW HID.out HOK.out.tick cv D.ch hcv.rss HOK.out.chl)
    obtain ⟨q, qc, rfl, _⟩ := hcv.rss
    clear hd hcv ha hw0
    go_wp2_with fail
    refine HD.out.mono ?_
    rintro e w8 ⟨rfl, hid8, hc8⟩
    have H8 := Lib.hid (And.intro hid8 (HC1.out.trans hc8))
    clear hid8 hc8 HID c2 HD
    go_wp2_with fail
    go_ret
    rw [HW.out]
    exact ⟨rfl, H8.out⟩
  · have HW : Hid (D.cut f n = (D.tick.setf f ⟨(D.l.getD f Fl.zero).safe.extract 0 n, (D.l.getD f Fl.zero).ws⟩, 0)) := by unfold Hid Dk.cut; rw [if_neg ha]
    have hd : decide (D.armed = 1) = false := decide_eq_false ha
    rw [hd]
    have c0 : ∀ t : Grow w1, t.val.cell? ⟨b, 0, none⟩ = some (.slice (some ⟨g, 0, none⟩) D.l.length cap) := fun t => t.cell HID.out.cells.1
    have hsz := HOK.out.size f hf
    rw [size_rd] at hsz
    have h1 := HID.out.fs.safe f hf
    obtain ⟨x, hx⟩ : ∃ x, x = D.l.getD f Fl.zero := ⟨_, rfl⟩
    have hx2 : x = D.tick.l.getD f Fl.zero := hx
    rw [← hx] at hsz HW hn
    rw [← hx2] at h1
    have c1 : ∀ t : Grow w1, t.val.cell? ⟨g, f * 2, none⟩ = some (.string x.safe) := fun t => t.cell h1
    have i1 : (0 : Int) ≤ (f : Int) := by omega
    have i2 : (f : Int) < (D.l.length : Int) := by omega
    have i3 : (0 : Int) ≤ (n : Int) := by omega
    have i4 : (n : Int) ≤ (x.safe.size : Int) := by omega
    have HX2 := Lib.hid hx2
    clear hd ha hsz h1 hx hx2 hw0
    go_wp2_with fail
    refine wp_region_fam_tail 17 (by kernel_rfl) (by kernel_rfl) Grow.val (Grow.start w1) ?_
    simp only [List.take_succ_cons, List.take_zero, List.drop_succ_cons, List.drop_zero]
    repeat go_big_quiet_step (fail)
    refine wpQuiet_nil ?_
    intro t
    have hid5 := HID.out.below t.below
    have k1 := c1 t
    have f1 := hid5.fs.free (f * 2)
    have hid6 := hid5.files (l' := D.tick.l.set f ⟨x.safe.extract 0 n, (D.tick.l.getD f Fl.zero).ws⟩) (Chg.setCell (fun k => k = g) t.val (j := f * 2) rfl (.string (x.safe.extract 0 n))) (hid5.fs.setSafe (f := f) hf (x.safe.extract 0 n)) (by rw [List.length_set])
    rw [← HX2.out] at hid6
    have HID6 := Lib.hid hid6
    have HC6 := Lib.hid (HC1.out.trans ((Chg.of_below (fun k => k = b ∨ k = g) t.below).trans (Chg.setCell (fun k => k = b ∨ k = g) t.val (j := f * 2) (.inr rfl) (.string (x.safe.extract 0 n)))))
    clear c0 c1 hid5 hid6 i3 i4
    go_wp2_with fail
    go_ret
    rw [HW.out]
    exact ⟨rfl, HID6.out, HC6.out⟩
end Go.Proofs.YtilpbjcbffbjeaaGreatDoor
namespace Go.Proofs.YtilpbjcbffbjeaaGreatDoor
open Go.RowKit
set_option linter.unusedSectionVars false
variable [Avoid]
def Dk.out (D : Dk) (f : Int) : Bool := decide (f < 0 ∨ (D.l.length : Int) ≤ f)
def Dk.writeX (D : Dk) (f : Int) (s : ByteArray) : Dk × Int :=
  if D.dead = true then (D, 2) else if D.out f = true then (D, 160) else if 262144 < (rd (D.l.getD f.toNat Fl.zero)).size + s.size then (D, 161) else D.write f.toNat s
def Dk.syncX (D : Dk) (f : Int) : Dk × Int := if D.dead = true then (D, 2) else if D.out f = true then (D, 160) else D.sync f.toNat
def Dk.cutX (D : Dk) (f n : Int) : Dk × Int :=
  if D.dead = true then (D, 2) else if D.out f = true then (D, 160) else if 0 < (D.l.getD f.toNat Fl.zero).ws.length ∨ n < 0 ∨ ((D.l.getD f.toNat Fl.zero).safe.size : Int) < n then (D, 162) else D.cut f.toNat n.toNat
def Dk.readX (D : Dk) (f : Int) : ByteArray × Int := if D.dead = true then (⟨#[]⟩, 2) else if D.out f = true then (⟨#[]⟩, 160) else (rd (D.l.getD f.toNat Fl.zero), 0)
set_option maxHeartbeats 400000 in
theorem writeRef {b : Nat} {w : World} (f : Int) (s : ByteArray) (r : Int) (hr : (r != 0) = true) (h : Calls Tryz.prog 71 #[.pointer (some ⟨b, 0, none⟩), .int .i64 1, .int .i64 f, .int .i64 (s.size : Nat)] w fun e w' => e = .returned (.int .i64 r) ∧ Below w.heap.size w w') :
    Calls Tryz.prog 62 #[.pointer (some ⟨b, 0, none⟩), .int .i64 f, .string s] w fun e w' => e = .returned (.int .i64 r) ∧ Below w.heap.size w w' := by
  have H := Lib.hid h
  clear h
  go_enter Tryz.func62, Tryz.ntmps62
  go_wp2_with fail
  refine H.out.mono ?_
  rintro e w1 ⟨rfl, hb⟩
  go_wp2_with fail
  go_ret
  exact ⟨rfl, hb⟩
set_option maxHeartbeats 400000 in
theorem syncRef {b : Nat} {w : World} (f : Int) (r : Int) (hr : (r != 0) = true) (h : Calls Tryz.prog 71 #[.pointer (some ⟨b, 0, none⟩), .int .i64 2, .int .i64 f, .int .i64 0] w fun e w' => e = .returned (.int .i64 r) ∧ Below w.heap.size w w') :
    Calls Tryz.prog 53 #[.pointer (some ⟨b, 0, none⟩), .int .i64 f] w fun e w' => e = .returned (.int .i64 r) ∧ Below w.heap.size w w' := by
  have H := Lib.hid h
  clear h
  go_enter Tryz.func53, Tryz.ntmps53
  go_wp2_with fail
  refine H.out.mono ?_
  rintro e w1 ⟨rfl, hb⟩
  go_wp2_with fail
  go_ret
  exact ⟨rfl, hb⟩
set_option maxHeartbeats 400000 in
theorem cutRef {b : Nat} {w : World} (f n : Int) (r : Int) (hr : (r != 0) = true) (h : Calls Tryz.prog 71 #[.pointer (some ⟨b, 0, none⟩), .int .i64 0, .int .i64 f, .int .i64 n] w fun e w' => e = .returned (.int .i64 r) ∧ Below w.heap.size w w') :
    Calls Tryz.prog 56 #[.pointer (some ⟨b, 0, none⟩), .int .i64 f, .int .i64 n] w fun e w' => e = .returned (.int .i64 r) ∧ Below w.heap.size w w' := by
  have H := Lib.hid h
  clear h
  go_enter Tryz.func56, Tryz.ntmps56
  go_wp2_with fail
  refine H.out.mono ?_
  rintro e w1 ⟨rfl, hb⟩
  go_wp2_with fail
  go_ret
  exact ⟨rfl, hb⟩
set_option maxHeartbeats 400000 in
theorem readRef {b : Nat} {w : World} (f : Int) (r : Int) (hr : (r != 0) = true) (h : Calls Tryz.prog 71 #[.pointer (some ⟨b, 0, none⟩), .int .i64 2, .int .i64 f, .int .i64 0] w fun e w' => e = .returned (.int .i64 r) ∧ Below w.heap.size w w') :
    Calls Tryz.prog 33 #[.pointer (some ⟨b, 0, none⟩), .int .i64 f] w fun e w' => e = .returned (.tuple #[.string ⟨#[]⟩, .int .i64 r]) ∧ Below w.heap.size w w' := by
  have H := Lib.hid h
  clear h
  go_enter Tryz.func33, Tryz.ntmps33
  go_wp2_with fail
  refine H.out.mono ?_
  rintro e w1 ⟨rfl, hb⟩
  go_wp2_with fail
  go_ret2
  exact ⟨rfl, hb⟩
set_option maxHeartbeats 400000 in
theorem readOk {b g cap : Nat} {D : Dk} {w : World} (h : IsDisk w b g cap D) (hok : DOk D) (hd : D.dead = false) (f : Nat) (hf : f < D.l.length) :
    Calls Tryz.prog 33 #[.pointer (some ⟨b, 0, none⟩), .int .i64 (f : Nat)] w fun e w' => e = .returned (.tuple #[.string (rd (D.l.getD f Fl.zero)), .int .i64 0]) ∧ Below w.heap.size w w' := by
  have HR := Lib.hid (refRead h hd f hf 0)
  have h1 := h.cells.1
  have h2 := h.fs.len
  have h3 := h.fs.capm
  unfold maxLen at h3
  obtain ⟨v, h5, h6⟩ := h.fs.ws f hf
  have h4 := h.fs.safe f hf
  obtain ⟨x, hx⟩ : ∃ x, x = D.l.getD f Fl.zero := ⟨_, rfl⟩
  have h7 := hok.size f hf
  have h8 := hok.many f hf
  rw [← hx] at h4 h6 h7 h8 ⊢
  have HW := Lib.hid (readW x v w h6 (by omega) (by omega))
  clear h h6 hx hok h8 hd
  go_enter Tryz.func33, Tryz.ntmps33
  go_wp2_with fail
  refine HR.out.mono ?_
  rintro e w' ⟨rfl, rfl⟩
  go_wp2_with fail
  refine HW.out.mono ?_
  rintro e w' ⟨rfl, hb⟩
  go_wp2_with fail
  go_ret2
  exact ⟨rfl, hb⟩
section
variable {b g cap : Nat} {D : Dk} {w : World}
theorem out_cases {D : Dk} {f : Int} (h : D.out f = false) : ∃ n : Nat, f = n ∧ n < D.l.length := by
  have h1 : ¬ (f < 0 ∨ (D.l.length : Int) ≤ f) := of_decide_eq_false h
  exact ⟨f.toNat, by omega, by omega⟩
theorem same_below {e : Ending} {w' : World} {v : Value} (h : e = .returned v ∧ w = w') : e = .returned v ∧ Below w.heap.size w w' := ⟨h.1, h.2 ▸ Below.refl _ _⟩
theorem writeA (h : IsDisk w b g cap D) (hok : DOk D) (f : Int) (s : ByteArray) (hs : s.size ≤ 140737488355328) (hm : ∀ f, f < D.l.length → (D.l.getD f Fl.zero).ws.length < 1099511627776) :
    Calls Tryz.prog 62 #[.pointer (some ⟨b, 0, none⟩), .int .i64 f, .string s] w fun e w' => e = .returned (.int .i64 (D.writeX f s).2) ∧ IsDisk w' b g cap (D.writeX f s).1 ∧ Chg (fun k => k = b ∨ k = g) w w' := by
  have fin : ∀ r, D.writeX f s = (D, r) → ∀ e w', e = Ending.returned (.int .i64 r) ∧ Below w.heap.size w w' → e = .returned (.int .i64 (D.writeX f s).2) ∧ IsDisk w' b g cap (D.writeX f s).1 ∧ Chg (fun k => k = b ∨ k = g) w w' := fun r hr e w' ⟨h1, h2⟩ => by
    rw [hr]; exact ⟨h1, h.below h2, Chg.of_below _ h2⟩
  by_cases hd : D.dead = true
  · exact (writeRef f s 2 (by decide) ((refDead h hd 1 f s.size).mono fun _ _ => same_below)).mono (fin 2 (by unfold Dk.writeX; rw [if_pos hd]))
  · have hd0 : D.dead = false := by simpa using hd
    by_cases ho : D.out f = true
    · exact (writeRef f s 160 (by decide) ((refNo h hd0 1 (.inr (.inl rfl)) f (of_decide_eq_true ho) s.size).mono fun _ _ => same_below)).mono (fin 160 (by unfold Dk.writeX; rw [if_neg hd, if_pos ho]))
    · have ho0 : D.out f = false := by simpa using ho
      obtain ⟨n, rfl, hn⟩ := out_cases ho0
      have hw := refWrite h hok hd0 n hn s.size (by omega)
      by_cases hf : 262144 < (rd (D.l.getD n Fl.zero)).size + s.size
      · rw [if_pos hf] at hw
        exact (writeRef n s 161 (by decide) hw).mono (fin 161 (by unfold Dk.writeX; rw [if_neg hd, if_neg ho, Int.toNat_natCast, if_pos hf]))
      · have e : D.writeX (n : Int) s = D.write n s := by unfold Dk.writeX; rw [if_neg hd, if_neg ho, Int.toNat_natCast, if_neg hf]
        rw [e]
        exact writeW h hok hd0 n hn s (by omega) (hm n hn)
theorem syncA (h : IsDisk w b g cap D) (hok : DOk D) (f : Int) :
    Calls Tryz.prog 53 #[.pointer (some ⟨b, 0, none⟩), .int .i64 f] w fun e w' => e = .returned (.int .i64 (D.syncX f).2) ∧ IsDisk w' b g cap (D.syncX f).1 ∧ Chg (fun k => k = b ∨ k = g) w w' := by
  have fin : ∀ r, D.syncX f = (D, r) → ∀ e w', e = Ending.returned (.int .i64 r) ∧ Below w.heap.size w w' → e = .returned (.int .i64 (D.syncX f).2) ∧ IsDisk w' b g cap (D.syncX f).1 ∧ Chg (fun k => k = b ∨ k = g) w w' := fun r hr e w' ⟨h1, h2⟩ => by
    rw [hr]; exact ⟨h1, h.below h2, Chg.of_below _ h2⟩
  by_cases hd : D.dead = true
  · exact (syncRef f 2 (by decide) ((refDead h hd 2 f 0).mono fun _ _ => same_below)).mono (fin 2 (by unfold Dk.syncX; rw [if_pos hd]))
  · have hd0 : D.dead = false := by simpa using hd
    by_cases ho : D.out f = true
    · exact (syncRef f 160 (by decide) ((refNo h hd0 2 (.inr (.inr rfl)) f (of_decide_eq_true ho) 0).mono fun _ _ => same_below)).mono (fin 160 (by unfold Dk.syncX; rw [if_neg hd, if_pos ho]))
    · have ho0 : D.out f = false := by simpa using ho
      obtain ⟨n, rfl, hn⟩ := out_cases ho0
      have e : D.syncX (n : Int) = D.sync n := by unfold Dk.syncX; rw [if_neg hd, if_neg ho]; rfl
      rw [e]
      exact syncW h hok hd0 n hn
theorem cutA (h : IsDisk w b g cap D) (hok : DOk D) (f n : Int) :
    Calls Tryz.prog 56 #[.pointer (some ⟨b, 0, none⟩), .int .i64 f, .int .i64 n] w fun e w' => e = .returned (.int .i64 (D.cutX f n).2) ∧ IsDisk w' b g cap (D.cutX f n).1 ∧ Chg (fun k => k = b ∨ k = g) w w' := by
  have fin : ∀ r, D.cutX f n = (D, r) → ∀ e w', e = Ending.returned (.int .i64 r) ∧ Below w.heap.size w w' → e = .returned (.int .i64 (D.cutX f n).2) ∧ IsDisk w' b g cap (D.cutX f n).1 ∧ Chg (fun k => k = b ∨ k = g) w w' := fun r hr e w' ⟨h1, h2⟩ => by
    rw [hr]; exact ⟨h1, h.below h2, Chg.of_below _ h2⟩
  by_cases hd : D.dead = true
  · exact (cutRef f n 2 (by decide) ((refDead h hd 0 f n).mono fun _ _ => same_below)).mono (fin 2 (by unfold Dk.cutX; rw [if_pos hd]))
  · have hd0 : D.dead = false := by simpa using hd
    by_cases ho : D.out f = true
    · exact (cutRef f n 160 (by decide) ((refNo h hd0 0 (.inl rfl) f (of_decide_eq_true ho) n).mono fun _ _ => same_below)).mono (fin 160 (by unfold Dk.cutX; rw [if_neg hd, if_pos ho]))
    · have ho0 : D.out f = false := by simpa using ho
      obtain ⟨m, rfl, hm⟩ := out_cases ho0
      have fin2 := fun (hx : 0 < (D.l.getD m Fl.zero).ws.length ∨ n < 0 ∨ ((D.l.getD m Fl.zero).safe.size : Int) < n) => fin 162 (by unfold Dk.cutX; rw [if_neg hd, if_neg ho, Int.toNat_natCast, if_pos hx])
      by_cases h1 : 0 < (D.l.getD m Fl.zero).ws.length
      · exact (cutRef m n 162 (by decide) (refCut1 h hok hd0 m hm n h1)).mono (fin2 (.inl h1))
      by_cases h2 : n < 0
      · exact (cutRef m n 162 (by decide) (refCut2 h hok hd0 m hm n (by omega) h2)).mono (fin2 (.inr (.inl h2)))
      by_cases h3 : ((D.l.getD m Fl.zero).safe.size : Int) < n
      · exact (cutRef m n 162 (by decide) (refCut3 h hok hd0 m hm n (by omega) (by omega) h3)).mono (fin2 (.inr (.inr h3)))
      obtain ⟨k, rfl⟩ := Int.eq_ofNat_of_zero_le (show 0 ≤ n by omega)
      have e : D.cutX (m : Int) (k : Nat) = D.cut m k := by
        unfold Dk.cutX; rw [if_neg hd, if_neg ho, Int.toNat_natCast, Int.toNat_natCast, if_neg (by intro hx; rcases hx with h | h | h; exact h1 h; exact h2 h; exact h3 h)]
      rw [e]
      exact cutW h hok hd0 m hm k (by omega) (by omega)
theorem readA (h : IsDisk w b g cap D) (hok : DOk D) (f : Int) :
    Calls Tryz.prog 33 #[.pointer (some ⟨b, 0, none⟩), .int .i64 f] w fun e w' => e = .returned (.tuple #[.string (D.readX f).1, .int .i64 (D.readX f).2]) ∧ Below w.heap.size w w' := by
  by_cases hd : D.dead = true
  · have e : D.readX f = (⟨#[]⟩, 2) := by unfold Dk.readX; rw [if_pos hd]
    rw [e]
    exact readRef f 2 (by decide) ((refDead h hd 2 f 0).mono fun _ _ => same_below)
  · have hd0 : D.dead = false := by simpa using hd
    by_cases ho : D.out f = true
    · have e : D.readX f = (⟨#[]⟩, 160) := by unfold Dk.readX; rw [if_neg hd, if_pos ho]
      rw [e]
      exact readRef f 160 (by decide) ((refNo h hd0 2 (.inr (.inr rfl)) f (of_decide_eq_true ho) 0).mono fun _ _ => same_below)
    · have ho0 : D.out f = false := by simpa using ho
      obtain ⟨n, rfl, hn⟩ := out_cases ho0
      have e : D.readX (n : Int) = (rd (D.l.getD n Fl.zero), 0) := by unfold Dk.readX; rw [if_neg hd, if_neg ho]; rfl
      rw [e]
      exact readOk h hok hd0 n hn
/-- Crash, refused or not. -/
def Dk.crashX (D : Dk) (css : List (List Int)) : Dk × Int := if D.dead = true then (D, 2) else (D.died css, 0)
theorem crashA (h : IsDisk w b g cap D) (hok : DOk D) (cv : Value) (css : List (List Int)) (hcs : Rss w cv css) (hcl : ∀ i, (css.getD i []).length ≤ 140737488355328) :
    Calls Tryz.prog 19 #[.pointer (some ⟨b, 0, none⟩), cv] w fun e w' => e = .returned (.int .i64 (D.crashX css).2) ∧ IsDisk w' b g cap (D.crashX css).1 ∧ Chg (fun k => k = b ∨ k = g) w w' := by
  by_cases hd : D.dead = true
  · have e : D.crashX css = (D, 2) := by unfold Dk.crashX; rw [if_pos hd]
    rw [e]
    refine (crashDead h hd cv).mono fun e w' ⟨h1, h2⟩ => ?_
    subst h2
    exact ⟨h1, h, Chg.refl _ _⟩
  · have e : D.crashX css = (D.died css, 0) := by unfold Dk.crashX; rw [if_neg hd]
    rw [e]
    exact crashW h hok (by simpa using hd) cv css hcs hcl
end
end Go.Proofs.YtilpbjcbffbjeaaGreatDoor
