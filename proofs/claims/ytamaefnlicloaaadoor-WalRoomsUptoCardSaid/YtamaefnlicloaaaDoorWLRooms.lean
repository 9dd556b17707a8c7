/- The walk of WalRooms. -/
import Derived.Test.YtamaefnlicloaaaDoorWRun
import Derived.Test.YtamaefnlicloaaaDoorWFixed
namespace Go.Proofs.YtamaefnlicloaaaDoor
set_option linter.unusedVariables false
set_option maxRecDepth 100000
open Go.RowKit
theorem makeBR (u : World) (n : Nat) (hn : n ≤ 1048576) : (Instr.makeSlice 30 (.int .i64 (n : Int)) (.int .i64 (n : Int))).run Tryd.prog u = .ok (.slice (some ⟨u.heap.size, 0, none⟩) n n) (u.alloc (.cells (madeCells #[.int .u8 0] n) 5)) := by
  obtain ⟨i0, hi0, hz0, hz1, hz2⟩ := info_parts infoB
  have h := run_make (P := Tryd.prog) u 30 5 i0 (.int .u8 0) Tryd.underlying30 hi0 hz0 .i64 .i64 (n : Int) (n : Int) (by omega) (by omega) (by rw [hz2]; omega) (by omega)
  rw [hz1] at h
  simpa [Value.cells] using h
theorem convBR (u : World) (n : Nat) : (convert 30 9 (.slice (some ⟨u.heap.size, 0, none⟩) n n)).run Tryd.prog (u.alloc (.cells (madeCells #[.int .u8 0] n) 5)) = .ok (.string (zs n)) (u.alloc (.cells (madeCells #[.int .u8 0] n) 5)) := by
  have hr := run_convert_bytes_arg (P := Tryd.prog) (u.alloc (.cells (madeCells #[.int .u8 0] n) 5)) 30 5 Tryd.underlying30 Tryd.underlying5 u.heap.size 0 n n (List.replicate n 0) (by simp) (fun i hi => by
    rw [cell_of_row _ u.heap.size (0 + i) (madeCells #[.int .u8 0] n) 5 _ (heap_alloc_new u _)]
    simp [madeCells, Nat.mod_one, hi]) 9 Tryd.underlying9
  have e1 : strOfNums (List.replicate n 0) = zs n := by unfold strOfNums zs strOf; simp
  rw [e1] at hr
  exact hr
theorem Strs.cellR {w : World} {v : Value} {ss : List ByteArray} (h : Strs w v ss) {p : Option Addr} {n c : Nat} (hv : v = .slice p n c) {i : Nat} (hi : i < ss.length) : ∃ b off, p = some ⟨b, off, none⟩ ∧ w.cell? ⟨b, off + i, none⟩ = some (.string (ss.getD i ⟨#[]⟩)) := by
  obtain ⟨p', c', e, hc⟩ := h.form
  rw [hv] at e
  injection e with e1 e2 e3
  subst e1
  exact hc i hi
theorem z2_minv : MInv [Fl.zero, Fl.zero] 0 := ⟨by decide, by decide, fun f hf => by
    match f, (show f < 2 from hf) with
    | 0, _ => exact of_decide_eq_true (by kernel_rfl)
    | 1, _ => exact of_decide_eq_true (by kernel_rfl), fun f hf => by
    match f, (show f < 2 from hf) with
    | 0, _ => exact Nat.le_refl _
    | 1, _ => exact Nat.le_refl _⟩
theorem room_cases (z n : Nat) (hn : n < 1099511627776) : roomZ z n = -1 ∨ ∃ N : Nat, roomZ z n = N ∧ N ≤ 16384 := by
  unfold roomZ
  by_cases h : 262125 < z
  · rw [if_pos (.inl h)]; exact .inl rfl
  · rw [if_neg (by omega)]
    exact .inr ⟨(min (262125 - (z : Int)) 16384).toNat, by omega, by omega⟩
/-- A log beside another one on its own disk. -/
theorem LAt.beside {B b g cap lb : Nat} {w0 w w' : World} {D D2 : Dk} {L L2 : Lg} {b2 g2 cap2 lb2 : Nat} (h : LAt B w0 b g cap lb D L w) (h2 : LAt B w0 b2 g2 cap2 lb2 D2 L2 w) (hc : Chg (fun k => k = lb2 ∨ k = b2 ∨ k = g2) w w')
    (n1 : lb < b2 ∧ lb < g2 ∧ lb < lb2) (n2 : b < b2 ∧ b < g2 ∧ b < lb2) (n3 : g < b2 ∧ g < g2 ∧ g < lb2) (h2' : Below B w0 w') : LAt B w0 b g cap lb D L w' := by
  have hm : Muts (fun k => k = lb2 ∨ k = b2 ∨ k = g2) w := by
    intro k hk hS cur T fr hh
    rcases hS with e | e | e
    · exact h2.log.muts k hk e cur T fr hh
    · exact h2.on.disk.muts k hk (.inl e) cur T fr hh
    · exact h2.on.disk.muts k hk (.inr e) cur T fr hh
  exact ⟨⟨h.on.disk.keep hc (by omega) (by omega) hm, h2', h.on.bB, h.on.gB, h.on.le⟩, h.log.keep hc (by omega), h.lB⟩
theorem WS.keepW {B b g cap lb : Nat} {w0 w w' : World} {D' : Dk} {L' : Lg} {v : Value} {ss : List ByteArray} (h : WS w v ss) (hc : Chg (fun k => k = lb ∨ k = b ∨ k = g) w w') (h0 : LAt B w0 b g cap lb D' L' w) : WS w' v ss := by
  refine h.keep hc ?_
  intro k hk hS cur T fr hh
  rcases hS with e | e | e
  · exact h0.log.muts k hk e cur T fr hh
  · exact h0.on.disk.muts k hk (.inl e) cur T fr hh
  · exact h0.on.disk.muts k hk (.inr e) cur T fr hh
set_option maxHeartbeats 6400000 in
theorem roomsLaw (v : Value) (ss : List ByteArray) (w : World) (hs : Strs w v ss) (hl : ss.length ≤ 1048576) :
    Calls Tryd.prog 7 #[v] w fun e w' => e = .returned (.bool true) ∧ Below w.heap.size w w' := by
  obtain ⟨vp, vc, rfl, _⟩ := hs.form
  have HSS := Lib.hid hs
  obtain ⟨m, hm⟩ : ∃ m, m = ss.length := ⟨_, rfl⟩
  rw [← hm] at HSS hl ⊢
  have HMM := Lib.hid hm
  clear hs hm
  go_enter Tryd.func7, Tryd.ntmps7
  go_wp2_with fail
  refine (newW _ [fe, fe] (strs_two _ w.heap.size fe fe (by simp [fe]) (by simp [fe])) (by decide) (fun i hi => by match i, (show i < 2 from hi) with | 0, _ => decide | 1, _ => decide)).mono ?_
  rintro e w1 ⟨hb1, hh⟩
  rcases hh with ⟨hne, _⟩ | ⟨_, b, g, cap, rfl, hid, hbb, hgg⟩
  · exact absurd fx0 hne
  have hat : At w.heap.size w b g cap (dk0 [Fl.zero, Fl.zero]) w1 := ⟨hid, ((Below.refl _ _).alloc (Nat.le_refl _) _).trans (hb1.mono (by simp)), by simp at hbb; omega, by simp at hgg; omega, Nat.le_refl _⟩
  have HA := Lib.hid hat
  clear hat hid hbb hgg hb1
  obtain ⟨hinv, hnew⟩ := newI HA.out z2_minv (by omega) 0 (by decide) (by rfl) (by rfl) ⟨#[]⟩ (by decide)
  have HN := Lib.hid hnew
  have HI := Lib.hid hinv
  clear hinv hnew
  go_wp2_with fail
  refine HN.out.mono ?_
  rintro e w2 ⟨lb, rfl, _, hlat⟩
  have HL := Lib.hid hlat
  clear hlat HN HA
  go_wp2_with fail
  go_loopw [7] (fun v7 wr => ∃ (i : Nat) (l : List Fl) (L : Lg) (ps : List ByteArray), v7 = .int .i64 (i : Nat) ∧ i ≤ m ∧ LAt w.heap.size w b g cap lb (dk0 l) L wr ∧ LInv l (i + 1) 0 L ⟨#[]⟩ ps ∧ l.length = 2) (fun v _ => (m - intOf v).toNat)
  case atStart => exact ⟨0, _, _, [], rfl, Nat.zero_le _, HL.out, HI.out, by rfl⟩
  case round =>
    obtain ⟨i, l, L, ps, rfl, him, hlat, hinv, hl2⟩ := hrel
    have HLr := Lib.hid hlat
    have HIr := Lib.hid hinv
    clear hlat hinv HI HL
    by_cases hlt : i < m
    · have hi1 : (i : Int) < (m : Int) := by omega
      have hi0 : (0 : Int) ≤ (i : Int) := by omega
      obtain ⟨tb, toff, htp, htc⟩ := (HSS.out.below (HLr.out.below)).cellR (p := vp) (n := m) (c := vc) rfl (i := i) (by rw [← HMM.out]; exact hlt)
      obtain ⟨s, hs⟩ : ∃ s, s = ss.getD i ⟨#[]⟩ := ⟨_, rfl⟩
      rw [← hs] at htc
      subst htp
      obtain ⟨ps', hinv', hcase⟩ := HIr.out.app s
      have HAP := Lib.hid (appI HLr.out HIr.out (by omega) s)
      obtain ⟨r, l2, L2, hX⟩ : ∃ r l2 L2, appX l L s = (r, l2, L2) := ⟨_, _, _, rfl⟩
      have hlen2 := (appX_frame l L s).1
      rw [hX] at hinv' HAP hlen2
      dsimp only at hinv' HAP hlen2
      have HLN : Hid (l2.length = 2) := hlen2.trans hl2
      have HI2 := Lib.hid hinv'
      clear hinv' hcase hX hs hlen2 hl2
      go_wp2_with fail
      refine HAP.out.mono ?_
      rintro e w3 ⟨rfl, hlat, _⟩
      have HL3 := Lib.hid hlat
      have hok := HI2.out.m.ok (by omega)
      have HRM := Lib.hid (hlat.room hok HI2.out.cl _ rfl)
      have hcs := room_cases (rd ((dk0 l2).l.getD L2.counts Fl.zero)).size L2.n (by have := HI2.out.few; have := HI2.out.n; omega)
      obtain ⟨Z, hZ⟩ : ∃ Z, Z = roomZ (rd ((dk0 l2).l.getD L2.counts Fl.zero)).size L2.n := ⟨_, rfl⟩
      rw [← hZ] at HRM hcs
      have HZ := Lib.hid hZ
      have HOK := Lib.hid hok
      clear hlat htc HAP hZ hok
      go_wp2_with fail
      refine HRM.out.mono ?_
      rintro e w4 ⟨rfl, hlat⟩
      have HL4 := Lib.hid hlat
      have HFL := Lib.hid (hlat.on.filesF HOK.out)
      clear hlat HRM HL3
      go_wp2_with fail
      refine HFL.out.mono ?_
      rintro e w5 ⟨v5, rfl, hws, hat5, hb⟩
      have HL5 := Lib.hid (HL4.out.grow hb)
      obtain ⟨p5, c5, hv5, _⟩ := hws.form
      have hfl : (dk0 l2).files.length = 2 := by
        show (l2.map rd).length = 2
        rw [List.length_map]; exact HLN.out
      rw [hfl] at hv5
      subst hv5
      have HW5 := Lib.hid hws
      clear hws hat5 hb HL4 HFL hfl
      rcases hcs with hZ | ⟨N, hZ, hN⟩
      · subst hZ
        have hmk := makeBR w5 0 (by omega)
        have hcv := convBR w5 0
        rw [show ((0 : Nat) : Int) = 0 from rfl] at hmk
        have hX2 : appX l2 L2 (zs 0) = (172, l2, L2) := by
          unfold appX
          rw [size_zs, if_neg (by omega), if_pos (by
            show roomZ (rd (l2.getD L2.counts Fl.zero)).size L2.n < _
            have h1 := HZ.out
            rw [show (dk0 l2).l = l2 from rfl] at h1
            rw [← h1]; omega)]
        have hb6 : Below w5.heap.size w5 (w5.alloc (.cells (madeCells #[.int .u8 0] 0) 5)) := (Below.refl _ _).alloc (Nat.le_refl _) _
        have HAP := Lib.hid (appI (HL5.out.grow hb6) HI2.out (by omega) (zs 0))
        rw [hX2] at HAP
        dsimp only at HAP
        have HW6 := Lib.hid (HW5.out.below hb6)
        have HL5b := Lib.hid (HL5.out.grow hb6)
        clear hX2 hb6 HL5 HW5
        go_wp2_with fail
        refine HAP.out.mono ?_
        rintro e w6 ⟨rfl, hlat, hch⟩
        have HL6 := Lib.hid hlat
        have HW7 : Hid (WS w6 (.slice p5 2 c5) (dk0 l2).files) := HW6.out.keepW hch HL5b.out
        clear hlat hch HAP HW6 hmk hcv
        go_wp2_with fail
        have HFL := Lib.hid (HL6.out.on.filesF HOK.out)
        refine HFL.out.mono ?_
        rintro e w7 ⟨v7, rfl, hws, hat7, hb⟩
        have HL7 := Lib.hid (HL6.out.grow hb)
        obtain ⟨p7, c7, hv7, _⟩ := hws.form
        rw [show (dk0 l2).files.length = 2 from (by show (l2.map rd).length = 2; rw [List.length_map]; exact HLN.out)] at hv7
        subst hv7
        have HSM := Lib.hid (sameW _ _ _ _ w7 hws.strs (HW7.out.below hb).strs (by show (l2.map rd).length ≤ _; rw [List.length_map, HLN.out]; decide) (by show (l2.map rd).length ≤ _; rw [List.length_map, HLN.out]; decide))
        rw [decide_eq_true rfl] at HSM
        clear hws hat7 hb HL6 HW7 HFL
        go_wp2_with fail
        refine HSM.out.mono ?_
        rintro e w8 ⟨rfl, hb⟩
        have HL8 := Lib.hid (HL7.out.grow hb)
        clear hb HSM HL7
        go_wp2_with fail
        refine (cloneW HL8.out.on.disk HOK.out).mono ?_
        rintro e w9 ⟨b2, g2, cap2, rfl, hid, hb2, hg2, hb⟩
        have HL9 := Lib.hid (HL8.out.grow hb)
        have HD9 := Lib.hid hid
        have hbl := HL8.out.on.disk.lt
        have hgl := HL8.out.on.disk.fs.lt
        have hll := HL8.out.log.lt
        have HLT : Hid ((lb < b2 ∧ lb < g2) ∧ (b < b2 ∧ b < g2) ∧ (g < b2 ∧ g < g2)) := ⟨⟨by omega, by omega⟩, ⟨by omega, by omega⟩, ⟨by omega, by omega⟩⟩
        have HGE : Hid (w.heap.size ≤ b2 ∧ w.heap.size ≤ g2) := by have := HL8.out.below.size; exact ⟨by omega, by omega⟩
        clear hid hb2 hg2 hb hbl hgl hll HL8
        go_wp2_with fail
        refine (cloneLW HL9.out.log b2).mono ?_
        rintro e wA ⟨rfl, hlog, hb⟩
        have HLA := Lib.hid (HL9.out.grow hb)
        have HL2 : Hid (LAt w.heap.size w b2 g2 cap2 w9.heap.size (dk0 l2) L2 wA) := ⟨⟨HD9.out.below hb, HLA.out.below, HGE.out.1, HGE.out.2, Nat.le_refl _⟩, hlog, HL9.out.below.size⟩
        obtain ⟨lb2, hlb2⟩ : ∃ x, x = w9.heap.size := ⟨_, rfl⟩
        have HLL : Hid (lb < lb2 ∧ b < lb2 ∧ g < lb2) := by
          rw [hlb2]; exact ⟨HL9.out.log.lt, HL9.out.on.disk.lt, HL9.out.on.disk.fs.lt⟩
        rw [← hlb2] at HL2 ⊢
        clear hlog hb hlb2 HL9 HD9
        go_wp2_with fail
        exact ⟨⟨i + 1, l2, L2, ps', rfl, by omega, HLA.out, HI2.out, HLN.out⟩, by simp only [intOf]; omega⟩
      · by_cases hN2 : N < 16384
        · have hn1 : (N : Int) < 16384 := by omega
          have hn0 : (0 : Int) ≤ (N : Int) := by omega
          subst hZ
          have hmk := makeBR w5 (N + 1) (by omega)
          have hcv := convBR w5 (N + 1)
          rw [show (((N + 1 : Nat) : Int)) = (N : Int) + 1 by omega] at hmk
          have hX2 : appX l2 L2 (zs (N + 1)) = (172, l2, L2) := by
            unfold appX
            rw [size_zs, if_neg (by omega), if_pos (by
              show roomZ (rd (l2.getD L2.counts Fl.zero)).size L2.n < _
              have h1 := HZ.out
              rw [show (dk0 l2).l = l2 from rfl] at h1
              rw [← h1]; omega)]
          have hb6 : Below w5.heap.size w5 (w5.alloc (.cells (madeCells #[.int .u8 0] (N + 1)) 5)) := (Below.refl _ _).alloc (Nat.le_refl _) _
          have HAP := Lib.hid (appI (HL5.out.grow hb6) HI2.out (by omega) (zs (N + 1)))
          rw [hX2] at HAP
          dsimp only at HAP
          have HW6 := Lib.hid (HW5.out.below hb6)
          have HL5b := Lib.hid (HL5.out.grow hb6)
          clear hX2 hb6 HL5 HW5
          go_wp2_with fail
          refine HAP.out.mono ?_
          rintro e w6 ⟨rfl, hlat, hch⟩
          have HL6 := Lib.hid hlat
          have HW7 : Hid (WS w6 (.slice p5 2 c5) (dk0 l2).files) := HW6.out.keepW hch HL5b.out
          clear hlat hch HAP HW6 hmk hcv
          go_wp2_with fail
          have HFL := Lib.hid (HL6.out.on.filesF HOK.out)
          refine HFL.out.mono ?_
          rintro e w7 ⟨v7, rfl, hws, hat7, hb⟩
          have HL7 := Lib.hid (HL6.out.grow hb)
          obtain ⟨p7, c7, hv7, _⟩ := hws.form
          rw [show (dk0 l2).files.length = 2 from (by show (l2.map rd).length = 2; rw [List.length_map]; exact HLN.out)] at hv7
          subst hv7
          have HSM := Lib.hid (sameW _ _ _ _ w7 hws.strs (HW7.out.below hb).strs (by show (l2.map rd).length ≤ _; rw [List.length_map, HLN.out]; decide) (by show (l2.map rd).length ≤ _; rw [List.length_map, HLN.out]; decide))
          rw [decide_eq_true rfl] at HSM
          clear hws hat7 hb HL6 HW7 HFL
          go_wp2_with fail
          refine HSM.out.mono ?_
          rintro e w8 ⟨rfl, hb⟩
          have HL8 := Lib.hid (HL7.out.grow hb)
          clear hb HSM HL7
          go_wp2_with fail
          refine (cloneW HL8.out.on.disk HOK.out).mono ?_
          rintro e w9 ⟨b2, g2, cap2, rfl, hid, hb2, hg2, hb⟩
          have HL9 := Lib.hid (HL8.out.grow hb)
          have HD9 := Lib.hid hid
          have hbl := HL8.out.on.disk.lt
          have hgl := HL8.out.on.disk.fs.lt
          have hll := HL8.out.log.lt
          have HLT : Hid ((lb < b2 ∧ lb < g2) ∧ (b < b2 ∧ b < g2) ∧ (g < b2 ∧ g < g2)) := ⟨⟨by omega, by omega⟩, ⟨by omega, by omega⟩, ⟨by omega, by omega⟩⟩
          have HGE : Hid (w.heap.size ≤ b2 ∧ w.heap.size ≤ g2) := by have := HL8.out.below.size; exact ⟨by omega, by omega⟩
          clear hid hb2 hg2 hb hbl hgl hll HL8
          go_wp2_with fail
          refine (cloneLW HL9.out.log b2).mono ?_
          rintro e wA ⟨rfl, hlog, hb⟩
          have HLA := Lib.hid (HL9.out.grow hb)
          have HL2 : Hid (LAt w.heap.size w b2 g2 cap2 w9.heap.size (dk0 l2) L2 wA) := ⟨⟨HD9.out.below hb, HLA.out.below, HGE.out.1, HGE.out.2, Nat.le_refl _⟩, hlog, HL9.out.below.size⟩
          obtain ⟨lb2, hlb2⟩ : ∃ x, x = w9.heap.size := ⟨_, rfl⟩
          have HLL : Hid (lb < lb2 ∧ b < lb2 ∧ g < lb2) := by
            rw [hlb2]; exact ⟨HL9.out.log.lt, HL9.out.on.disk.lt, HL9.out.on.disk.fs.lt⟩
          rw [← hlb2] at HL2 ⊢
          clear hlog hb hlb2 HL9 HD9
          go_wp2_with fail
          have hmk2 := makeBR wA N (by omega)
          have hcv2 := convBR wA N
          have hX3 : appX l2 L2 (zs N) = (0, l2.set L2.counts ⟨(l2.getD L2.counts Fl.zero).safe, (l2.getD L2.counts Fl.zero).ws ++ [recS (L2.n + 1) (zs N)]⟩, { L2 with n := L2.n + 1 }) := by
            unfold appX
            rw [size_zs, if_neg (by omega), if_neg (by
              show ¬ roomZ (rd (l2.getD L2.counts Fl.zero)).size L2.n < _
              have h1 := HZ.out
              rw [show (dk0 l2).l = l2 from rfl] at h1
              rw [← h1]; omega)]
          have hbB : Below wA.heap.size wA (wA.alloc (.cells (madeCells #[.int .u8 0] N) 5)) := (Below.refl _ _).alloc (Nat.le_refl _) _
          have HAP2 := Lib.hid (appI (HL2.out.grow hbB) HI2.out (by omega) (zs N))
          rw [hX3] at HAP2
          dsimp only at HAP2
          have HLB := Lib.hid (HLA.out.grow hbB)
          have HL2B := Lib.hid (HL2.out.grow hbB)
          clear hX3 hbB HLA HL2
          go_wp2_with fail
          rw [hmk2]
          go_wp2_with fail
          refine HAP2.out.mono ?_
          rintro e wC ⟨rfl, hlat, hch⟩
          have HL2C := Lib.hid hlat
          have HLC := Lib.hid (HLB.out.beside HL2B.out hch ⟨HLT.out.1.1, HLT.out.1.2, HLL.out.1⟩ ⟨HLT.out.2.1.1, HLT.out.2.1.2, HLL.out.2.1⟩ ⟨HLT.out.2.2.1, HLT.out.2.2.2, HLL.out.2.2⟩ hlat.below)
          clear hlat hch HLB HL2B HAP2 hmk2 hcv2
          go_wp2_with fail
          refine (recordsW HL2C.out.log).mono ?_
          rintro e wD ⟨rfl, rfl⟩
          go_wp2_with fail
          refine (recordsW HLC.out.log).mono ?_
          rintro e wE ⟨rfl, rfl⟩
          have hne : ((((L2.n + 1 : Nat) : Int)) != (L2.n : Int) + 1) = false := by simp
          have hnb : (L2.n : Int) + 1 ≤ 1048577 := by have := HI2.out.few; have := HI2.out.n; omega
          go_wp2_with fail
          exact ⟨⟨i + 1, l2, L2, ps', rfl, by omega, HLC.out, HI2.out, HLN.out⟩, by simp only [intOf]; omega⟩
        · have hn1 : ¬ (N : Int) < 16384 := by omega
          have hn0 : (0 : Int) ≤ (N : Int) := by omega
          have hn3 : ¬ (16384 : Int) < (N : Int) := by omega
          subst hZ
          have HL6 := HL5
          have HW7 := HW5
          clear HL5 HW5
          go_wp2_with fail
          have HFL := Lib.hid (HL6.out.on.filesF HOK.out)
          refine HFL.out.mono ?_
          rintro e w7 ⟨v7, rfl, hws, hat7, hb⟩
          have HL7 := Lib.hid (HL6.out.grow hb)
          obtain ⟨p7, c7, hv7, _⟩ := hws.form
          rw [show (dk0 l2).files.length = 2 from (by show (l2.map rd).length = 2; rw [List.length_map]; exact HLN.out)] at hv7
          subst hv7
          have HSM := Lib.hid (sameW _ _ _ _ w7 hws.strs (HW7.out.below hb).strs (by show (l2.map rd).length ≤ _; rw [List.length_map, HLN.out]; decide) (by show (l2.map rd).length ≤ _; rw [List.length_map, HLN.out]; decide))
          rw [decide_eq_true rfl] at HSM
          clear hws hat7 hb HL6 HW7 HFL
          go_wp2_with fail
          refine HSM.out.mono ?_
          rintro e w8 ⟨rfl, hb⟩
          have HL8 := Lib.hid (HL7.out.grow hb)
          clear hb HSM HL7
          go_wp2_with fail
          refine (cloneW HL8.out.on.disk HOK.out).mono ?_
          rintro e w9 ⟨b2, g2, cap2, rfl, hid, hb2, hg2, hb⟩
          have HL9 := Lib.hid (HL8.out.grow hb)
          have HD9 := Lib.hid hid
          have hbl := HL8.out.on.disk.lt
          have hgl := HL8.out.on.disk.fs.lt
          have hll := HL8.out.log.lt
          have HLT : Hid ((lb < b2 ∧ lb < g2) ∧ (b < b2 ∧ b < g2) ∧ (g < b2 ∧ g < g2)) := ⟨⟨by omega, by omega⟩, ⟨by omega, by omega⟩, ⟨by omega, by omega⟩⟩
          have HGE : Hid (w.heap.size ≤ b2 ∧ w.heap.size ≤ g2) := by have := HL8.out.below.size; exact ⟨by omega, by omega⟩
          clear hid hb2 hg2 hb hbl hgl hll HL8
          go_wp2_with fail
          refine (cloneLW HL9.out.log b2).mono ?_
          rintro e wA ⟨rfl, hlog, hb⟩
          have HLA := Lib.hid (HL9.out.grow hb)
          have HL2 : Hid (LAt w.heap.size w b2 g2 cap2 w9.heap.size (dk0 l2) L2 wA) := ⟨⟨HD9.out.below hb, HLA.out.below, HGE.out.1, HGE.out.2, Nat.le_refl _⟩, hlog, HL9.out.below.size⟩
          obtain ⟨lb2, hlb2⟩ : ∃ x, x = w9.heap.size := ⟨_, rfl⟩
          have HLL : Hid (lb < lb2 ∧ b < lb2 ∧ g < lb2) := by
            rw [hlb2]; exact ⟨HL9.out.log.lt, HL9.out.on.disk.lt, HL9.out.on.disk.fs.lt⟩
          rw [← hlb2] at HL2 ⊢
          clear hlog hb hlb2 HL9 HD9
          go_wp2_with fail
          have hmk2 := makeBR wA N (by omega)
          have hcv2 := convBR wA N
          have hX3 : appX l2 L2 (zs N) = (0, l2.set L2.counts ⟨(l2.getD L2.counts Fl.zero).safe, (l2.getD L2.counts Fl.zero).ws ++ [recS (L2.n + 1) (zs N)]⟩, { L2 with n := L2.n + 1 }) := by
            unfold appX
            rw [size_zs, if_neg (by omega), if_neg (by
              show ¬ roomZ (rd (l2.getD L2.counts Fl.zero)).size L2.n < _
              have h1 := HZ.out
              rw [show (dk0 l2).l = l2 from rfl] at h1
              rw [← h1]; omega)]
          have hbB : Below wA.heap.size wA (wA.alloc (.cells (madeCells #[.int .u8 0] N) 5)) := (Below.refl _ _).alloc (Nat.le_refl _) _
          have HAP2 := Lib.hid (appI (HL2.out.grow hbB) HI2.out (by omega) (zs N))
          rw [hX3] at HAP2
          dsimp only at HAP2
          have HLB := Lib.hid (HLA.out.grow hbB)
          have HL2B := Lib.hid (HL2.out.grow hbB)
          clear hX3 hbB HLA HL2
          go_wp2_with fail
          rw [hmk2]
          go_wp2_with fail
          refine HAP2.out.mono ?_
          rintro e wC ⟨rfl, hlat, hch⟩
          have HL2C := Lib.hid hlat
          have HLC := Lib.hid (HLB.out.beside HL2B.out hch ⟨HLT.out.1.1, HLT.out.1.2, HLL.out.1⟩ ⟨HLT.out.2.1.1, HLT.out.2.1.2, HLL.out.2.1⟩ ⟨HLT.out.2.2.1, HLT.out.2.2.2, HLL.out.2.2⟩ hlat.below)
          clear hlat hch HLB HL2B HAP2 hmk2 hcv2
          go_wp2_with fail
          refine (recordsW HL2C.out.log).mono ?_
          rintro e wD ⟨rfl, rfl⟩
          go_wp2_with fail
          refine (recordsW HLC.out.log).mono ?_
          rintro e wE ⟨rfl, rfl⟩
          have hne : ((((L2.n + 1 : Nat) : Int)) != (L2.n : Int) + 1) = false := by simp
          have hnb : (L2.n : Int) + 1 ≤ 1048577 := by have := HI2.out.few; have := HI2.out.n; omega
          go_wp2_with fail
          exact ⟨⟨i + 1, l2, L2, ps', rfl, by omega, HLC.out, HI2.out, HLN.out⟩, by simp only [intOf]; omega⟩
    · have hi1 : ¬ (i : Int) < (m : Int) := by omega
      clear hlt
      go_wp2_with fail
      refine (fixedLW _).mono ?_
      rintro e w6 ⟨rfl, hb⟩
      have HB := Lib.hid (HLr.out.below.trans (hb.mono HLr.out.below.size))
      clear hb
      go_wp2_with fail
      go_ret
      exact ⟨rfl, HB.out⟩
end Go.Proofs.YtamaefnlicloaaaDoor
