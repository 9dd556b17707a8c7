/- side.opens: both are opened, and answer alike. -/
import Derived.Test.YtilpbjcbffbjeaaGreatDoorWSideO
namespace Go.Proofs.YtilpbjcbffbjeaaGreatDoor
set_option linter.unusedVariables false
set_option maxRecDepth 100000
open Go.RowKit
theorem Chg.trans' {S : Nat → Prop} {w w1 w2 : World} {X : Nat} (h : Chg S w w1) (k : Chg (fun j => j = X) w1 w2) (hX : w.heap.size ≤ X) : Chg S w w2 :=
  ⟨k.os.trans h.os, k.tape.trans h.tape, k.output.trans h.output, Nat.le_trans h.size k.size, fun j hj hS => (k.block j (Nat.lt_of_lt_of_le hj h.size) (by omega)).trans (h.block j hj hS)⟩
def overS : ByteArray := ⟨#[111, 118, 101, 114]⟩
section
variable {B b g r sb cap : Nat} {w0 w w' : World} {D : Dk}
def OpensPost (B : Nat) (w0 w : World) (b g r sb : Nat) (D' : Dk) (e : Ending) (w' : World) : Prop :=
  e = .returned (.bool true) ∧ Duo B w0 w' b g r D' ∧ IsSide w' sb b r ∧ Chg (fun k => k = sb ∨ Of b g r k) w w'
set_option maxHeartbeats 3200000 in
theorem opensW {D' : Dk} {f : Int} {o : OR} (h : Duo B w0 w b g r D) (hok : DOk D) (hn : NoW D) (hs : IsSide w sb b r) (hB : B ≤ sb) (hc : OC D f D' o) :
    Calls Tryz.prog 38 #[.pointer (some ⟨sb, 0, none⟩), .int .i64 f] w (OpensPost B w0 w b g r sb D') := by
  have hn' := hc.nw hn
  have hne := hs.ne h
  have hap := h.apart
  obtain ⟨cap, hp⟩ := id h.p
  have H1 := Lib.hid (openA hp hok hc)
  have H2 := Lib.hid (fun (w1 : World) (g' cap' : Nat) (h : IsR B w0 w1 r g' cap' D) => ropenA h hok hc)
  have HLEN : Hid (∀ L q rs, o = .ok L q rs → rs.length ≤ 262144) := fun L q rs e => by subst e; exact hc.len
  have HH := Lib.hid h
  have HS := Lib.hid hs
  have HNW := Lib.hid hn'
  have HNE := Lib.hid hne
  have HBB := Lib.hid hB
  have HBW : Hid (B ≤ w.heap.size) := by unfold Hid; have := hs.lt; omega
  have c1 := hs.c1
  clear h hok hn hs hc hn' hne hap hp hB
  go_enter Tryz.func38, Tryz.ntmps38
  go_wp2_with fail
  refine H1.out.mono ?_
  rintro e w1 ⟨hr, hd1, hc1⟩
  obtain ⟨g1, cap1, hq1⟩ := HH.out.left hd1 hc1
  have HR1 := Lib.hid hq1
  have HD1 := Lib.hid hd1
  have HS1 := Lib.hid (HS.out.keep hc1 (by rintro (e | e); exact HNE.out.1 e; exact HNE.out.2.1 e))
  have HC1 : Hid (Chg (fun k => k = sb ∨ Of b g r k) w w1) := hc1.mono (fun k _ h => .inr (h.elim .inl (fun e => .inr (.inl e))))
  have HM1 : Hid (Muts (fun k => k = r) w1) := hq1.muts
  clear hd1 hc1 hq1 c1
  rcases o with k | ⟨L, q, rs⟩
  · have hr' := hr
    dsimp only at hr'
    subst hr'
    have c3 := HS1.out.c3
    clear hr
    go_wp2_with fail
    refine (H2.out _ _ _ HR1.out).mono ?_
    rintro e w2 ⟨hr2, ⟨g2, cap2, hq2⟩, hc2⟩
    dsimp only at hr2
    subst hr2
    have HD2 : Hid (Duo B w0 w2 b g r D') := ⟨⟨cap, Duo.right HD1.out HR1.out hq2 hc2⟩, ⟨g2, cap2, hq2⟩, HH.out.bB, HH.out.gB⟩
    have HS2 := Lib.hid (HS1.out.keep hc2 HNE.out.2.2)
    have HC2 : Hid (Chg (fun k => k = sb ∨ Of b g r k) w w2) := HC1.out.trans (hc2.mono (fun k _ h => .inr (.inr (.inr h))))
    clear hq2 hc2 c3
    go_wp2_with (go_at_call 24; refine (sameW (.slice none 0 0) (.slice none 0 0) [] [] w2 (WS.nil w2).strs (WS.nil w2).strs (by simp) (by simp)).mono ?_; rintro e w3 ⟨rfl, hb3⟩)
    refine wp_loop_rounds 1 ?_
    rw [rounds_succ]
    go_wp2_with fail
    go_ret
    exact ⟨rfl, HD2.out.grow hb3, HS2.out.below hb3, HC2.out.trans (Chg.of_below _ hb3)⟩
  · obtain ⟨lb, v, hr1, hlb, hlog, hown⟩ := hr
    subst hr1
    obtain ⟨p, c, hv⟩ := OwnsS.shape hown
    have HOW1 := Lib.hid hown
    obtain ⟨n, hnn⟩ : ∃ n, n = (rs.map strOf).length := ⟨_, rfl⟩
    have HN : Hid (n ≤ 262144) := by unfold Hid; rw [hnn, List.length_map]; exact HLEN.out L q rs rfl
    have HNN := Lib.hid hnn
    rw [← hnn] at hv
    have HV := Lib.hid hv
    subst hv
    have c3 := HS1.out.c3
    clear hown hlog hnn hlb
    go_wp2_with fail
    refine (H2.out _ _ _ HR1.out).mono ?_
    rintro e w2 ⟨hr2, ⟨g2, cap2, hq2⟩, hc2⟩
    obtain ⟨lr, vr, hr3, hws⟩ := hr2
    subst hr3
    have HD2 : Hid (Duo B w0 w2 b g r D') := ⟨⟨cap, Duo.right HD1.out HR1.out hq2 hc2⟩, ⟨g2, cap2, hq2⟩, HH.out.bB, HH.out.gB⟩
    have HS2 := Lib.hid (HS1.out.keep hc2 HNE.out.2.2)
    have HC2 : Hid (Chg (fun k => k = sb ∨ Of b g r k) w w2) := HC1.out.trans (hc2.mono (fun k _ h => .inr (.inr (.inr h))))
    have HOW2 := Lib.hid (HOW1.out.keepM hc2 HM1.out)
    have HWS2 := Lib.hid hws
    clear hq2 hc2 c3 hws
    obtain ⟨pr, cr, hvr⟩ : ∃ p c, vr = .slice p n c := by
      obtain ⟨p, c, h1, _⟩ := Row1.form HWS2.out
      rw [List.length_map, ← HNN.out] at h1
      exact ⟨p, c, h1⟩
    subst hvr
    have HSM := Lib.hid (sameW (.slice p n c) (.slice pr n cr) (rs.map strOf) (rs.map strOf) w2 (by have := HOW2.out.ws.strs; exact this) (by have := HWS2.out.strs; exact this) (by rw [← HNN.out]; have := HN.out; omega) (by rw [← HNN.out]; have := HN.out; omega))
    rw [decide_eq_true rfl] at HSM
    go_wp2_with (go_at_call 24; refine HSM.out.mono ?_; rintro e w3 ⟨rfl, hb3⟩)
    have HD3 := Lib.hid (HD2.out.grow hb3)
    have HS3 := Lib.hid (HS2.out.below hb3)
    have HC3 := Lib.hid (HC2.out.trans (Chg.of_below _ hb3))
    have HOW3 := Lib.hid (HOW2.out.kept hb3)
    clear hb3
    go_loopw [13] (fun v13 wr => ∃ (i : Nat) (ss : List ByteArray), i ≤ n ∧ v13 = .int .i64 (i : Nat) ∧ ss.length = n ∧ OwnsS wr w.heap.size (.slice p n c) ss ∧ Duo B w0 wr b g r D' ∧ IsSide wr sb b r ∧ Chg (fun k => k = sb ∨ Of b g r k) w wr) (fun v _ => ((n : Int) - intOf v).toNat)
    case atStart => exact ⟨0, _, Nat.zero_le _, rfl, HNN.out.symm, HOW3.out, HD3.out, HS3.out, HC3.out⟩
    case round =>
      obtain ⟨i, ss, hi, rfl, hsl, how, hdu, hsi, hch⟩ := hrel
      have HDU := Lib.hid hdu
      have HSI := Lib.hid hsi
      have HCH := Lib.hid hch
      have HSL := Lib.hid hsl
      clear hdu hsi hch HD3 HS3 HC3 HOW3
      by_cases hlt : i < n
      · have hX : ∃ X, p = some ⟨X, 0, none⟩ := by
          rcases how.2 with ⟨hv, hz⟩ | ⟨gx, cx, cur, hv, _⟩
          · omega
          · injection hv with e1 _ _
            exact ⟨gx, e1⟩
        obtain ⟨X, rfl⟩ := hX
        obtain ⟨k1, ⟨ov, k2⟩, k3, k4, k5⟩ := how.setO (i := i) (by omega) overS
        have K1 := Lib.hid k1
        have K4 := Lib.hid k4
        have K5 := Lib.hid k5
        have hlti : (i : Int) < (n : Int) := by omega
        have hz0 : (0 : Int) ≤ (i : Int) := by omega
        have hib : (i : Int) ≤ 262144 := by have := HN.out; omega
        clear how k1 k4 k5 hsl hi
        go_wp2_with fail
        refine ⟨⟨i + 1, ss.set i overS, by omega, rfl, by rw [List.length_set]; exact HSL.out, K1.out, HDU.out.over HNW.out K5.out (by have := HBW.out; have := K4.out; omega), ?_, ?_⟩, by simp only [intOf]; omega⟩
        · exact HSI.out.keep K5.out.chg (fun e => by have := K4.out; have := HS.out.lt; omega)
        · exact HCH.out.trans' K5.out.chg K4.out
      · have hni : ¬ (i : Int) < (n : Int) := by omega
        obtain ⟨ux, k0⟩ := HSI.out.c0
        obtain ⟨uy, k2⟩ := HSI.out.c2
        have f0 := HSI.out.free 0
        have f2 := HSI.out.free 2
        clear how hsl hlt hi
        go_wp2_with fail
        go_ret
        refine ⟨rfl, ?_, HSI.out.set _ _, HCH.out.trans (((Chg.setCell (fun k => k = sb) wr (j := 0) rfl _).trans (Chg.setCell (fun k => k = sb) _ (j := 2) rfl _)).mono (fun k _ h => .inl h))⟩
        have hc9 := (Chg.setCell (fun k => k = sb) wr (j := 0) rfl (.pointer (some ⟨lb, 0, none⟩))).trans (Chg.setCell (fun k => k = sb) (wr.setCell ⟨sb, 0, none⟩ (.pointer (some ⟨lb, 0, none⟩))) (j := 2) rfl (.pointer (some ⟨lr, 0, none⟩)))
        exact HDU.out.keep hc9 (fun e => HNE.out.1 e.symm) (fun e => HNE.out.2.1 e.symm) (fun e => HNE.out.2.2 e.symm) (fun k hk e => by have := HBB.out; omega) HSI.out.muts
end
end Go.Proofs.YtilpbjcbffbjeaaGreatDoor
