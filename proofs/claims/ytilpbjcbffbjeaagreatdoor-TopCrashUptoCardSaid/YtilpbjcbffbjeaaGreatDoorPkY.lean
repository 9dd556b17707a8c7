/- The law TopCrash's fixed calls.
   A slice of structs that came in, opened: Stps. (Written by gen_opener.py.) -/
import Derived.Test.YtilpbjcbffbjeaaGreatDoorPkX
import Derived.Test.YtilpbjcbffbjeaaGreatDoorPkS
import Derived.Test.YtilpbjcbffbjeaaGreatDoorDOpen
import Derived.Test.YtilpbjcbffbjeaaGreatDoorKLoop
namespace Go.Proofs.YtilpbjcbffbjeaaGreatDoor
set_option linter.unusedVariables false
set_option maxRecDepth 100000
open Go.RowKit
def kX : ByteArray := ⟨#[120]⟩
def kA : ByteArray := ⟨#[97]⟩
theorem AOpenR.okA {D D' : Dk} {f : Nat} {ss : List ByteArray} (h : AOpenR D f ss D' false) : AliveA D D' f ∧ AC (D'.l.getD f Fl.zero) ss ss.length := by
  cases h with
  | ok h1 h2 h3 => exact ⟨h1, h2⟩
theorem AOpenR.noA {D D' : Dk} {f : Nat} {ss : List ByteArray} (h : AOpenR D f ss D' true) : D.armed ≠ 0 := by
  cases h with
  | gone h1 h2 h3 => exact h1.ar
theorem ARest.zeroS : ARest ⟨rd Fl.zero, []⟩ [] := ARest.start.sync
set_option maxHeartbeats 6400000 in
theorem kfixedW (w : World) : Calls Tryz.prog 26 #[] w fun e w' => e = .returned (.bool true) ∧ Below w.heap.size w w' := by
  have hmk : (Instr.makeSlice 28 (.int .i64 5) (.int .i64 5)).run Tryz.prog w = .ok (.slice (some ⟨w.heap.size, 0, none⟩) 5 5) (w.alloc (.cells (madeCells #[.string ⟨#[]⟩] 5) 9)) := makeSn w 5 (by decide)
  go_enter Tryz.func26, Tryz.ntmps26
  go_wp2_with fail
  refine (newReps _ 5 (by decide) (by decide) (madeStrs w 5)).mono ?_
  rintro e w1 ⟨b, g, cap, D, rfl, hat, hok, hal, har, hfw, hln, hzz⟩
  have HAT := Lib.hid (hat.rebaseS ((Below.refl _ w).alloc (Nat.le_refl _) _) (by simp) (Nat.le_refl _))
  have HN := Lib.hid (sNewU (ten := 1) HAT.out (by decide) (by decide) (by rw [hln]; decide) hok hal har hfw hzz)
  have HLZ := Lib.hid (And.intro hln hzz)
  clear hmk hat hok hal har hfw hln hzz
  go_wp2_with fail
  refine HN.out.mono ?_
  rintro e w2 ⟨sb, D2, lb, L, rfl, hst, har, hlo⟩
  have HS := Lib.hid hst
  have HA := Lib.hid har
  have HL : Hid (D2.l.length = 5 ∧ D2.l.getD 4 Fl.zero = Fl.zero) := ⟨hlo.len.trans HLZ.out.1, (hlo.oth 4 (fun i hi => by unfold fiS; omega)).trans (HLZ.out.2 4)⟩
  clear hst har hlo HN HAT HLZ
  have HO := Lib.hid (aopenR (f := 4) (quota := 200) (ss := []) HS.out.on.disk HS.out.ok HS.out.al (by rw [HL.out.1]; decide) (by rw [HL.out.2]; exact ARest.zeroS) (by decide))
  go_wp2_with fail
  refine HO.out.mono ?_
  rintro e w3 ⟨D3, hd3, hc3, ⟨rfl, hr3⟩ | ⟨lp, rfl, hlp, hl3, hr3⟩⟩
  · exact absurd HA.out hr3.noA
  obtain ⟨ha3, hx3⟩ := hr3.okA
  have hout : Out 1 4 := fun i hi => by unfold fiS; omega
  have HS3 : Hid (StA w.heap.size w b g cap sb 1 D3 2 lb L (upd (fun _ => 0) 0 1) (upd (fun _ => ⟨#[]⟩) 0 ⟨#[]⟩) w3) := HS.out.aliveA ha3 hout (HS.out.few.aliveA ha3 hx3 (by rw [HL.out.1]; decide)) hd3 hc3 (fun k e h1 h2 => by omega) (fun k e => by have := HS.out.on.bB; have := HS.out.on.gB; omega)
  have HX3 := Lib.hid hx3
  have HL3 := Lib.hid hl3
  have HQ3 : Hid (D3.armed = 0 ∧ D3.l.length = 5 ∧ w.heap.size ≤ lp) := ⟨ha3.ar HA.out, ha3.len.trans HL.out.1, Nat.le_trans HS.out.on.below.size hlp⟩
  clear hd3 hc3 hlp hl3 hr3 ha3 hx3 hout HO HS HA HL
  have HC := Lib.hid (HS3.out.commit (by decide) 0 (by decide) kX (by decide) (by decide) (fun e => absurd HQ3.out.1 e))
  unfold kX at HC
  go_wp2_with fail
  refine HC.out.mono ?_
  rintro e w4 ⟨D4, L4, ⟨rfl, hst4, hc4, ha4⟩ | ⟨_, _, _, _, hg4, _⟩⟩
  rotate_left
  · exact absurd HQ3.out.1 hg4.ar
  have HS4 := Lib.hid hst4
  have hna := fun k (h : SS lb (0 + 1) b g sb k) => SS_SA (ten := 1) (i := 1) (by decide) h
  have HL4 := Lib.hid (HL3.out.keep hc4 (fun e => HL3.out.notSA HS3.out (hna _ e)) (fun k hk e => HS3.out.muts k hk (hna _ e)))
  have HX4 : Hid (AC (D4.l.getD 4 Fl.zero) [] 0) := by
    unfold Hid
    rw [ha4.other 4 (by unfold fiS; decide) (by unfold fiS; decide)]
    exact HX3.out
  have HQ4 : Hid (D4.armed = 0 ∧ D4.l.length = 5) := ⟨ha4.ar HQ3.out.1, ha4.len.trans HQ3.out.2.1⟩
  clear hst4 hc4 ha4 hna HC HS3 HX3 HL3
  have HP := Lib.hid (aappR HL4.out HS4.out.on.disk HS4.out.ok HS4.out.al (by rw [HQ4.out.2]; decide) HX4.out HS4.out.few.many (by decide) kA)
  unfold kA at HP
  go_wp2_with fail
  refine HP.out.mono ?_
  rintro e w5 ⟨r5, D5, ss5, dd5, rfl, hl5, hd5, hc5, hr5⟩
  have hlive : r5 = 0 ∧ dd5 = false ∧ ss5 = [kA] ∧ AliveA D4 D5 4 ∧ AC (D5.l.getD 4 Fl.zero) [kA] 0 := by
    have hz4 : (rd (D4.l.getD 4 Fl.zero)).size = 0 := by rw [HX4.out.size]; rfl
    cases hr5 with
    | long h => exact absurd h (by decide)
    | full _ h => rw [hz4] at h; exact absurd h (by decide)
    | ok _ _ _ h2 h3 => exact ⟨rfl, rfl, rfl, h2, h3⟩
    | gone _ _ _ h => exact absurd HQ4.out.1 h.ar
  obtain ⟨rfl, rfl, rfl, ha5, hx5⟩ := hlive
  have HS5 : Hid (StA w.heap.size w b g cap sb 1 D5 (2 + 1) lb (upd L (0 + 1) L4) (upd (upd (fun _ => 0) 0 1) (0 + 1) (upd (fun _ => 0) 0 1 (0 + 1) + 1)) (upd (upd (fun _ => ⟨#[]⟩) 0 ⟨#[]⟩) (0 + 1) kX) w5) := HS4.out.aliveA ha5 (fun i hi => by unfold fiS; omega) (HS4.out.few.aliveA ha5 hx5 (by rw [HQ4.out.2]; decide)) hd5 hc5 (fun k e h1 h2 => by
    rcases e with e | e | e
    · rw [e]; exact HL4.out.notSA HS4.out
    · exact absurd e h1
    · exact absurd e h2) (fun k e => by have := HS4.out.on.bB; have := HS4.out.on.gB; have := HQ3.out.2.2; omega)
  have HL5 := Lib.hid hl5
  have HX5 := Lib.hid hx5
  have HQ5 : Hid (D5.armed = 0 ∧ D5.l.length = 5) := ⟨ha5.ar HQ4.out.1, ha5.len.trans HQ4.out.2⟩
  clear hl5 hd5 hc5 hr5 ha5 hx5 HP HS4 HL4 HX4 HQ4
  have HY := Lib.hid (asynR HL5.out HS5.out.on.disk HS5.out.ok HS5.out.al (by rw [HQ5.out.2]; decide) HX5.out)
  go_wp2_with fail
  refine HY.out.mono ?_
  rintro e w6 ⟨r6, D6, dd6, rfl, hl6, hd6, hc6, hr6⟩
  have hlive : r6 = 0 ∧ dd6 = false ∧ AliveA D5 D6 4 ∧ AC (D6.l.getD 4 Fl.zero) [kA] 1 := by
    cases hr6 with
    | ok _ h2 h3 => exact ⟨rfl, rfl, h2, h3⟩
    | gone _ h => exact absurd HQ5.out.1 h.ar
  obtain ⟨rfl, rfl, ha6, hx6⟩ := hlive
  have HS6 : Hid (StA w.heap.size w b g cap sb 1 D6 (2 + 1) lb (upd L (0 + 1) L4) (upd (upd (fun _ => 0) 0 1) (0 + 1) (upd (fun _ => 0) 0 1 (0 + 1) + 1)) (upd (upd (fun _ => ⟨#[]⟩) 0 ⟨#[]⟩) (0 + 1) kX) w6) := HS5.out.aliveA ha6 (fun i hi => by unfold fiS; omega) (HS5.out.few.aliveA ha6 hx6 (by rw [HQ5.out.2]; decide)) hd6 hc6 (fun k e h1 h2 => by
    rcases e with e | e | e
    · rw [e]; exact HL5.out.notSA HS5.out
    · exact absurd e h1
    · exact absurd e h2) (fun k e => by have := HS5.out.on.bB; have := HS5.out.on.gB; have := HQ3.out.2.2; omega)
  have HL6 := Lib.hid hl6
  clear hl6 hd6 hc6 hr6 ha6 hx6 HY HS5 HL5 HX5 HQ5
  have HT := Lib.hid (stextW HS6.out.st (by decide) 0 (by decide))
  rw [upd_same] at HT
  unfold kX at HT
  go_wp2_with fail
  refine HT.out.mono ?_
  rintro e w7 ⟨rfl, rfl⟩
  obtain ⟨v7, h7, g7⟩ := HL6.out
  have HX := Lib.hid (atextsW h7 g7.strs (by decide))
  clear h7 g7 HT
  go_wp2_with fail
  refine HX.out.mono ?_
  rintro e w8 ⟨p8, rfl, _, hb⟩
  have HS8 := Lib.hid (HS6.out.grow hb)
  clear hb HX
  go_wp2_with fail
  go_ret
  exact ⟨rfl, HS8.out.on.below⟩
end Go.Proofs.YtilpbjcbffbjeaaGreatDoor
namespace Go.Proofs.YtilpbjcbffbjeaaGreatDoor
set_option linter.unusedVariables false
set_option maxRecDepth 100000
open Go.ChangeShapes Go.WideShapes Go.ChangeAt Go.RowKit Go.Deep
theorem open_stpslist {α : Type} (l : List α) (h : l.length = 3) : ∃ v0 v1 v2, l = [v0, v1, v2] := by
  match l, h with
  | [v0, v1, v2], _ => exact ⟨v0, v1, v2, rfl⟩
theorem open_stpswf {z : Int} (h : (Lit.int .i64 z).wf = true) : -9223372036854775808 ≤ z := by
  simp [Lit.wf] at h
  have e : IntKind.i64.min = -9223372036854775808 := rfl
  omega
def open_stpssum (B : Nat → Nat) : Nat → Nat
  | 0 => 0
  | n + 1 => open_stpssum B n + B n
theorem open_stpssum_le {H : Type} (D : Nat → DataW H) (n : Nat) : open_stpssum (fun i => Rows.uptoBulk (D i)) n = Rows.uptoBulkAll ((List.range n).map D) := by
  induction n with
  | zero => rfl
  | succ n ih => rw [List.range_succ, List.map_append, bulk_all_append, open_stpssum, ih]; simp [Rows.uptoBulkAll]
def open_stpsAt (w : World) (b at_ : Nat) (o : Stp) : Prop := w.cell? ⟨b, at_, none⟩ = some (.int .i64 o.kind) ∧ w.cell? ⟨b, at_ + 1, none⟩ = some (.int .i64 o.ten) ∧ w.cell? ⟨b, at_ + 2, none⟩ = some (.string o.text)
/-- What an element's bulk bounds. -/
structure open_stpsBd (b : Nat) (o : Stp) : Prop where
  kindb : o.kind ≤ 9223372036854775807
  kindl : -9223372036854775808 ≤ o.kind
  tenb : o.ten ≤ 9223372036854775807
  tenl : -9223372036854775808 ≤ o.ten
  textb : o.text.size ≤ b
section
variable {H : Type} {enc : TypeId × Value → H} {w : World} {base : Nat} {v : Value} {x : DataW H × List MemPlace} {fuel : Nat}
set_option maxHeartbeats 1600000 in
theorem open_stps (h : DataW.trod enc Tryz.prog w base (fun _ => true) true fuel 22 [v] = some x) : ∃ (os : List Stp) (B : Nat → Nat), Stps w v os ∧ os.length ≤ Rows.uptoBulk x.1 ∧ (∀ i, i < os.length → open_stpsBd (B i) (os.getD i Stp.zero)) ∧ open_stpssum B os.length + os.length ≤ 2 * Rows.uptoBulk x.1 ∧ open_stpssum B os.length ≤ Rows.uptoBulk x.1 := by
  rcases open_slice Tryz.underlying22 h with ⟨hcs, hx⟩ | ⟨a, len, cap, m, n, D, Pl, hcs, _, hl, hm, hmm, hx, hi⟩
  · simp at hcs
    subst hcs
    exact ⟨[], fun _ => 0, ⟨none, 0, rfl, fun i hi => absurd hi (Nat.not_lt_zero _)⟩, Nat.zero_le _, fun i hi => absurd hi (Nat.not_lt_zero _), Nat.zero_le _, Nat.zero_le _⟩
  · simp at hcs
    subst hcs
    simp only [if_true] at hmm
    subst hmm
    obtain ⟨b, off, spot⟩ := a
    have ce : Tryz.prog.cellsOf 41 = 3 := by kernel_rfl
    rw [ce] at hi
    by_cases hz : len = 0
    · subst hz
      exact ⟨[], fun _ => 0, ⟨_, _, rfl, fun i hi => absurd hi (Nat.not_lt_zero _)⟩, Nat.zero_le _, fun i hi => absurd hi (Nat.not_lt_zero _), Nat.zero_le _, Nat.zero_le _⟩
    have hspot : spot = none := by
      obtain ⟨cs', h1, _⟩ := hi 0 (by omega)
      obtain ⟨_, hlen, hcell⟩ := World.cells?_some h1
      have := hcell 0 (by omega)
      rw [List.getElem?_eq_getElem (by omega)] at this
      simpa [Addr.add] using World.cell?_spot this
    subst hspot
    have each : ∀ i, i < len → ∃ o : Stp, open_stpsAt w b (off + i * 3) o ∧ open_stpsBd (Rows.uptoBulk (D i)) o := by
      intro i hil
      obtain ⟨cs', h1, h2⟩ := hi i (by omega)
      obtain ⟨_, hlen, hcell⟩ := World.cells?_some h1
      obtain ⟨xs, k, hk, hxy, _, hxl, hf⟩ := DataW.trod_struct Tryz.underlying41 h2
      obtain ⟨y0, y1, y2, rfl⟩ := open_stpslist xs hxl
      obtain ⟨v0, v1, v2, rfl⟩ := open_stpslist cs' hlen
      have ki : Tryz.prog.cellsOf 3 = 1 := by kernel_rfl
      have ks : Tryz.prog.cellsOf 9 = 1 := by kernel_rfl
      have g0 : DataW.trod enc Tryz.prog w base (fun _ => true) true k 3 (([v0, v1, v2].drop 0).take (Tryz.prog.cellsOf 3)) = [y0, y1, y2][0]? := hf 0 _ rfl
      rw [ki] at g0
      replace g0 : DataW.trod enc Tryz.prog w base (fun _ => true) true k 3 [v0] = some y0 := g0
      have g1 : DataW.trod enc Tryz.prog w base (fun _ => true) true k 3 (([v0, v1, v2].drop 1).take (Tryz.prog.cellsOf 3)) = [y0, y1, y2][1]? := hf 1 _ rfl
      rw [ki] at g1
      replace g1 : DataW.trod enc Tryz.prog w base (fun _ => true) true k 3 [v1] = some y1 := g1
      have g2 : DataW.trod enc Tryz.prog w base (fun _ => true) true k 9 (([v0, v1, v2].drop 2).take (Tryz.prog.cellsOf 9)) = [y0, y1, y2][2]? := hf 2 _ rfl
      rw [ks] at g2
      replace g2 : DataW.trod enc Tryz.prog w base (fun _ => true) true k 9 [v2] = some y2 := g2
      obtain ⟨z0, e0, _, wf0⟩ := DataW.trod_int Tryz.underlying3 g0
      obtain ⟨z1, e1, _, wf1⟩ := DataW.trod_int Tryz.underlying3 g1
      obtain ⟨z2, e2, x2, _⟩ := DataW.trod_string Tryz.underlying9 g2
      simp only [List.cons.injEq, and_true] at e0 e1 e2
      subst e0 e1 e2
      simp only [add_plain, Prod.mk.injEq] at hcell hxy
      have hD := hxy.1
      have q2 : Rows.uptoBulk y2.1 ≤ Rows.uptoBulk (D i) := by
        rw [hD]
        have := bulk_mem (H := H) (l := List.map (fun x => x.fst) [y0, y1, y2]) (d := y2.1) (by simp)
        simp only [Rows.uptoBulk]; omega
      have s2 : z2.size ≤ Rows.uptoBulk y2.1 := by rw [x2]; have := bulk_str (H := H) z2; show _ ≤ Rows.uptoBulk (DataW.lit (H := H) (.string z2.data.toList)); omega
      exact ⟨⟨z0, z1, z2⟩, ⟨hcell 0 (by omega), hcell 1 (by omega), hcell 2 (by omega)⟩, ⟨wf_le wf0, open_stpswf wf0, wf_le wf1, open_stpswf wf1, by dsimp only; omega⟩⟩
    haveI : Inhabited Stp := ⟨Stp.zero⟩
    obtain ⟨O, hO⟩ := choose_lt (α := Stp) each
    have hlen : ((List.range len).map O).length = len := by rw [List.length_map, List.length_range]
    have hgd : ∀ i, i < len → ((List.range len).map O).getD i Stp.zero = O i := fun i hi => by rw [List.getD_eq_getElem?_getD, List.getElem?_map, List.getElem?_range hi]; rfl
    have hsum := open_stpssum_le D len
    have hbl := bulk_len ((List.range len).map D)
    rw [List.length_map, List.length_range] at hbl
    have hxb : Rows.uptoBulkAll ((List.range len).map D) ≤ Rows.uptoBulk x.1 := by rw [hx]; simp only [Rows.uptoBulk]; omega
    refine ⟨(List.range len).map O, fun i => Rows.uptoBulk (D i), ⟨some ⟨b, off, none⟩, m, by rw [hlen], fun i hi => ?_⟩, by rw [hlen]; omega, fun i hi => ?_, by rw [hlen, hsum]; omega, by rw [hlen, hsum]; omega⟩
    · rw [hlen] at hi
      rw [hgd i hi]
      obtain ⟨c0, c1, c2⟩ := (hO i hi).1
      exact ⟨b, off, rfl, c0, c1, c2⟩
    · rw [hlen] at hi
      rw [hgd i hi]
      exact (hO i hi).2
end
end Go.Proofs.YtilpbjcbffbjeaaGreatDoor
