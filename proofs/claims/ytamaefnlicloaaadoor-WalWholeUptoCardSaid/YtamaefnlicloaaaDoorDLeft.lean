/- The walk of the program's left: what choices leave of a file. -/
import Derived.Test.YtamaefnlicloaaaDoorDWalk1
import Derived.Test.YtamaefnlicloaaaDoorDLoose
namespace Go.Proofs.YtamaefnlicloaaaDoor
open Go.RowKit
theorem overAt_mid (p x r t : List Nat) (k : Nat) (hk : k ≤ x.length) (ht : t.length = x.length - k) : overAt (p ++ x ++ r) (p.length + k) t = p ++ x.take k ++ t ++ r := by
  unfold overAt
  have h1 : (p ++ x ++ r).take (p.length + k) = p ++ x.take k := by
    rw [List.append_assoc, List.take_append, List.take_of_length_le (by omega), show p.length + k - p.length = k by omega, List.take_append, show k - x.length = 0 by omega, List.take_zero, List.append_nil]
  have h2 : (p ++ x ++ r).drop (p.length + k + t.length) = r := by
    rw [show p.length + k + t.length = (p ++ x).length by rw [List.length_append]; omega, List.drop_left]
  rw [h1, h2]
/-- So many bytes 0. -/
def zs (c : Nat) : ByteArray := strOf (List.replicate c 0)
theorem bs_zs (c : Nat) : bs (zs c) = List.replicate c 0 := bs_strOf _ (fun x hx => by rw [(List.mem_replicate.1 hx).2]; decide)
theorem size_zs (c : Nat) : (zs c).size = c := by unfold zs; rw [size_strOf, List.length_replicate]
theorem repeat_zs (c : Nat) : (⟨(Lib.repeatL [0] c).toArray⟩ : ByteArray) = zs c := by
  unfold zs strOf
  congr 2
  induction c with
  | zero => rfl
  | succ c ih =>
    rw [Lib.repeatL, ih, List.replicate_succ, List.map_cons]
    rfl
theorem repeatW (c : Nat) (w : World) (hc : c ≤ 140737488355328) :
    Calls Tryd.prog 64 #[.string ⟨#[0]⟩, .int .i64 (c : Nat)] w fun e w' => e = .returned (.string (zs c)) ∧ Below w.heap.size w w' := by
  refine (Tryd.strings_Repeat ⟨#[0]⟩ c w (by omega) (by show 1 * c ≤ _; omega)).mono fun e w' ⟨h1, h2⟩ => ⟨?_, h2⟩
  rw [h1, ← repeat_zs]
theorem overL_next (f : Fl) (cs : List Int) (i : Nat) (h : i < f.ws.length) (k n : Nat) (hk : kpt cs i (f.ws.getD i ⟨#[]⟩).size = k) (hn : (f.ws.getD i ⟨#[]⟩).size = n) (at_ : Nat) (ha : at_ = f.safe.size + (cat (f.ws.take i)).length) :
    overAt (overL f cs i) (at_ + k) (bs (zs (n - k))) = overL f cs (i + 1) := by
  have h1 := lftN_len f cs i (by omega)
  have hkl : k ≤ n := by rw [← hk, ← hn]; exact kpt_le _ _ _
  rw [overL_step f cs i h, overL_succ f cs i h, hk, hn, bs_zs]
  have h2 : at_ = ((lftN f cs i).1 ++ List.replicate (lftN f cs i).2 0).length := by rw [List.length_append, List.length_replicate, h1, ha]
  rw [h2, overAt_mid _ _ _ _ k (by rw [length_bs, hn]; exact hkl) (by rw [List.length_replicate, length_bs, hn])]
theorem lftN_end (f : Fl) (cs : List Int) (i : Nat) (h : i < f.ws.length) (k : Nat) (hk : kpt cs i (f.ws.getD i ⟨#[]⟩).size = k) (at_ : Nat) (ha : at_ = f.safe.size + (cat (f.ws.take i)).length) :
    (lftN f cs (i + 1)).1.length = if k = 0 then (lftN f cs i).1.length else at_ + k := by
  have h1 := lftN_len f cs i (by omega)
  have h2 := kpt_le cs i (f.ws.getD i ⟨#[]⟩).size
  rw [lftN_succ, hk]
  split
  · rfl
  · rw [List.length_append, List.length_append, List.length_replicate, List.length_take, length_bs, ha, ← h1]
    omega
theorem at_next (f : Fl) (i : Nat) (h : i < f.ws.length) (at_ n : Nat) (hn : (f.ws.getD i ⟨#[]⟩).size = n) (ha : at_ = f.safe.size + (cat (f.ws.take i)).length) : at_ + n = f.safe.size + (cat (f.ws.take (i + 1))).length := by
  have hc := cat_take_succ f.ws i h
  rw [show (ByteArray.empty : ByteArray) = ⟨#[]⟩ from rfl] at hc
  rw [hc, List.length_append, length_bs, hn, ha]
  omega
set_option maxRecDepth 100000 in
set_option maxHeartbeats 1600000 in
theorem leftW (f : Fl) (v cv : Value) (cs : List Int) (w : World) (h : WS w v f.ws) (hcs : Ints w cv cs) (hl : (rd f).size ≤ 140737488355328) (hn : f.ws.length ≤ 140737488355328) (hcn : cs.length ≤ 140737488355328) :
    Calls Tryd.prog 51 #[.agg #[.string f.safe, v], cv] w fun e w' => e = .returned (.string (left f cs)) ∧ Below w.heap.size w w' := by
  have hsz := size_rd f
  have hb0 : Below w.heap.size w (w.alloc (.cells #[.string f.safe, v] 81)) := (Below.refl _ _).alloc (Nat.le_refl _) _
  obtain ⟨W, hW⟩ : ∃ W, W = w.alloc (.cells #[.string f.safe, v] 81) := ⟨_, rfl⟩
  have c1 : W.cell? ⟨w.heap.size, 0, none⟩ = some (.string f.safe) := by rw [hW]; simp
  have c2 : W.cell? ⟨w.heap.size, 1, none⟩ = some v := by rw [hW]; simp
  have hWs : W.heap.size = w.heap.size + 1 := by rw [hW]; simp
  rw [← hW] at hb0
  have HB0 := Lib.hid hb0
  have HW := Lib.hid hW
  have HV := Lib.hid (h.below hb0)
  obtain ⟨p, vcap, rfl, hcell⟩ := (h.below hb0).strs.form
  have HCELL := Lib.hid hcell
  obtain ⟨cp, ccap, rfl, hccell⟩ := (hcs.below hb0).form
  have HCC := Lib.hid hccell
  obtain ⟨CN, hCN⟩ : ∃ n, n = cs.length := ⟨_, rfl⟩
  rw [← hCN]
  rw [← hCN] at hcn
  have HCN := Lib.hid hCN
  have HSZ := Lib.hid hsz
  have HWS := Lib.hid hWs
  have HR := Lib.hid (readW f _ W (h.below hb0) hl hn)
  have HC1 := Lib.hid c1
  have HC2 := Lib.hid c2
  clear hb0 hW h hcs hsz hWs c1 c2 hcell hccell hCN
  obtain ⟨M, hM⟩ : ∃ M, M = f.ws.length := ⟨_, rfl⟩
  have HM := Lib.hid hM
  have hMb : M ≤ 140737488355328 := by rw [hM]; exact hn
  rw [← hM] at HV HR HC2 HW ⊢
  clear hn hM
  go_enter Tryd.func51, Tryd.ntmps51
  have c1 : (w.alloc (.cells #[.string f.safe, .slice p M vcap] 81)).cell? ⟨w.heap.size, 0, none⟩ = some (.string f.safe) := by simp
  have c2 : (w.alloc (.cells #[.string f.safe, .slice p M vcap] 81)).cell? ⟨w.heap.size, 1, none⟩ = some (.slice p M vcap) := by simp
  go_wp2_with fail
  rw [← HW.out]
  clear c1 c2
  refine HR.out.mono ?_
  rintro e w1 ⟨rfl, hb1⟩
  have HB1 := Lib.hid hb1
  clear hb1
  obtain ⟨S, hS⟩ : ∃ S, S = rd f := ⟨_, rfl⟩
  rw [← hS]
  have HS := Lib.hid hS
  clear hS
  go_wp2_with (with_reducible refine wpList_string_bytes (o := ⟨some 13, _, _, _, _, _⟩) rfl 9 30 _ rfl Tryd.underlying9 Tryd.underlying30 Tryd.underlying5 S rfl ?_)
  intro vb w2 ho2 hb2
  obtain ⟨gB, capB, rfl, hlo⟩ := ho2
  rw [length_bs]
  have hb02 : Below W.heap.size W w2 := HB1.out.trans (hb2.mono HB1.out.size)
  have c1 : ∀ t : Grow w2, t.val.cell? ⟨w.heap.size, 0, none⟩ = some (.string f.safe) := fun t => t.cell ((hb02.cell (p := ⟨w.heap.size, 0, none⟩) (by show w.heap.size < _; rw [HWS.out]; omega)).trans HC1.out)
  have c2 : w2.cell? ⟨w.heap.size, 1, none⟩ = some (.slice p M vcap) := (hb02.cell (p := ⟨w.heap.size, 1, none⟩) (by show w.heap.size < _; rw [HWS.out]; omega)).trans HC2.out
  have HB02 := Lib.hid hb02
  have HLO := Lib.hid hlo
  have HC2B := Lib.hid c2
  have hgB := hlo.b
  have hs1 := HB1.out.size
  clear hb02 hb2 c2 hlo
  go_wp2_with fail
  refine wp_region_fam (by kernel_rfl) (by kernel_rfl) Grow.val (Grow.start w2) ?_
  repeat go_big_quiet_step (fail)
  refine wpQuiet_nil ?_
  intro t
  clear c1
  have c2 : t.val.cell? ⟨w.heap.size, 1, none⟩ = some (.slice p M vcap) := t.cell HC2B.out
  have HBT := Lib.hid (HB02.out.trans (t.below.mono HB02.out.size))
  have HLT := Lib.hid (HLO.out.grown (r := none) ⟨t.below.os, t.below.tape, t.below.output, t.below.size, fun k hk _ => t.below.block k hk⟩ (by simp))
  obtain ⟨w3, hw3⟩ : ∃ w3, w3 = t.val := ⟨_, rfl⟩
  rw [← hw3] at c2 HBT HLT ⊢
  clear hw3 t HB1 HB02 HLO HC2B
  have hsr : (rdL f).length = S.size := by rw [HS.out]; unfold rd; rw [size_strOf]
  have HSR := Lib.hid hsr
  have hlrd : LooseAt w3 w1.heap.size gB capB (overL f cs 0) := by rw [overL_zero, ← bs_rd, ← HS.out]; exact HLT.out
  have HL3 := Lib.hid hlrd
  have hSb : S.size ≤ 140737488355328 := by rw [HS.out]; exact hl
  have hcapS : S.size ≤ capB := by have := HLT.out.n; rw [length_bs] at this; exact this
  have hst3 : gB < w3.heap.size := HLT.out.lt
  clear hsr hlrd hl HLT
  go_wp2_with fail
  go_loopw [6, 7, 23] (fun va ve vi wr => ∃ (i a : Nat), i ≤ M ∧ vi = .int .i64 (i : Nat) ∧ a = f.safe.size + (cat (f.ws.take i)).length ∧ va = .int .i64 (a : Nat) ∧ ve = .int .i64 ((lftN f cs i).1.length : Nat) ∧ LooseAt wr w1.heap.size gB capB (overL f cs i) ∧ Below W.heap.size W wr) (fun _ _ vi _ => (M - intOf vi).toNat)
  case atStart => exact ⟨0, f.safe.size, by omega, rfl, by simp [cat], rfl, by simp [lftN, length_bs], HL3.out, HBT.out⟩
  case round =>
    obtain ⟨i, a, hi, rfl, ha, rfl, rfl, hlo, hbr⟩ := hrel
    have HA := Lib.hid ha
    have HLO := Lib.hid hlo
    have HBR := Lib.hid hbr
    have hlen := lftN_len f cs i (by rw [← HM.out]; exact hi)
    obtain ⟨E, hE⟩ : ∃ E, E = (lftN f cs i).1.length := ⟨_, rfl⟩
    rw [← hE] at hlen ⊢
    have hEa : E ≤ a := by omega
    have haS : a ≤ S.size := by
      have h1 := length_cat_take f.ws i
      have h2 := HSZ.out
      rw [← HS.out] at h2
      omega
    have HE := Lib.hid hE
    clear ha hlo hbr hlen hE
    by_cases hlt : i < M
    · obtain ⟨b, off, hp, hx⟩ := HCELL.out i (by rw [← HM.out]; exact hlt)
      subst hp
      obtain ⟨x, hxx⟩ : ∃ x, x = f.ws.getD i ⟨#[]⟩ := ⟨_, rfl⟩
      rw [show (ByteArray.empty : ByteArray) = ⟨#[]⟩ from rfl, ← hxx] at hx
      have hxw : wr.cell? ⟨b, off + i, none⟩ = some (.string x) := (HBR.out.cell (block_lt_of_cell hx)).trans hx
      have HXX := Lib.hid hxx
      obtain ⟨n, hn⟩ : ∃ n, n = x.size := ⟨_, rfl⟩
      have hnext := at_next f i (by rw [← HM.out]; exact hlt) a n (by rw [← hxx, hn]) HA.out
      have han : a + n ≤ S.size := by
        have h1 := length_cat_take f.ws (i + 1)
        have h2 := HSZ.out
        rw [← HS.out] at h2
        omega
      have HNX := Lib.hid hnext
      have HN := Lib.hid hn
      clear hx hxx hnext
      by_cases hci : i < CN
      · obtain ⟨cb, co, hcp, hcx⟩ := HCC.out i (by rw [← HCN.out]; exact hci)
        subst hcp
        have hcw := (HBR.out.cell (block_lt_of_cell hcx)).trans hcx
        obtain ⟨z, hz⟩ : ∃ z, z = cs.getD i 0 := ⟨_, rfl⟩
        rw [← hz] at hcw
        have HZ := Lib.hid hz
        clear hcx hz
        obtain ⟨k, hk⟩ : ∃ k, k = kpt cs i n := ⟨_, rfl⟩
        have hkz : min (max 0 z) (x.size : Int) = (k : Int) := by
          rw [hk, kpt, if_pos (by rw [← HCN.out]; exact hci), ← HZ.out, ← HN.out]
          omega
        have hkn : k ≤ n := by rw [hk]; exact kpt_le _ _ _
        have HK := Lib.hid hk
        have HKZ := Lib.hid hkz
        clear hk hkz
        obtain ⟨q, hq⟩ : ∃ q, q = n - k := ⟨_, rfl⟩
        have hqk : q + k = n := by omega
        have HQ := Lib.hid hq
        have C1 : Hid (∀ t : Grow wr, Calls Tryd.prog 64 #[.string ⟨#[0]⟩, .int .i64 (q : Nat)] t.val fun e w' => e = .returned (.string (zs q)) ∧ Below t.val.heap.size t.val w') := fun t => repeatW q t.val (by omega)
        have HQK := Lib.hid hqk
        have hqn : q ≤ n := by omega
        have hqn2 : q + k ≤ n := by omega
        have hqn3 : n ≤ q + k := by omega
        clear hq
        go_wp2_with fail
        rw [HKZ.out]
        have e0 : (x.size : Int) = (n : Int) := by rw [HN.out]
        have e1 : IntKind.i64.wrap ((a : Int) + (k : Int)) = (a : Int) + (k : Int) := IntWalk.i64_in _ (by omega)
        have e2 : (0 : Int) ≤ (a : Int) + (k : Int) := by omega
        have e3 : ((a : Int) + (k : Int)).toNat = a + k := by omega
        have e4 : (a : Int) + (k : Int) ≤ (S.size : Int) := by omega
        have e5 : IntKind.i64.wrap ((n : Int) - (k : Int)) = (q : Int) := by rw [IntWalk.i64_in _ (by omega)]; omega
        clear hqk
        refine wp_region_fam_tail 10 (by kernel_rfl) (by kernel_rfl) Grow.val (Grow.start wr) ?_
        simp only [List.take_succ_cons, List.take_zero, List.drop_succ_cons, List.drop_zero]
        repeat go_big_quiet_step ((with_reducible refine Calls.fam_of (C1.out _) (Grow.more _)))
        refine wpQuiet_nil ?_
        intro t
        have hlot := HLO.out.grown (r := none) ⟨t.below.os, t.below.tape, t.below.output, t.below.size, fun k hk _ => t.below.block k hk⟩ (by simp)
        refine wpList_copy_loose rfl _ _ 30 9 rfl Tryd.underlying30 (by kernel_rfl) _ _ _ (zs q) rfl rfl hlot (a + k) ?hA ?hle ?hfit ?_
        case hA =>
          intro h
          rw [size_zs] at h
          clear e1 e2 e3 e4 e5
          rw [if_neg (show ¬ capB = a + k by omega)]
        case hle => clear e1 e2 e3 e4 e5; rw [size_zs]; omega
        case hfit => clear e1 e2 e3 e4 e5; rw [length_overL f cs i (by rw [← HM.out]; omega), HSR.out, size_zs]; omega
        intro w5 hlo5 hg5
        have hover : overAt (overL f cs i) (a + k) (bs (zs q)) = overL f cs (i + 1) := by
          rw [HQ.out]
          exact overL_next f cs i (by rw [← HM.out]; exact hlt) k n (by rw [← HXX.out, ← HN.out]; exact HK.out.symm) (by rw [← HXX.out, HN.out]) a HA.out
        rw [hover] at hlo5
        have HLO5 := Lib.hid hlo5
        have HB5 := Lib.hid (HBR.out.trans ((t.below.mono (HBR.out.size)).trans (grown_below hg5 (by omega) (Nat.le_trans HBR.out.size t.below.size))))
        have hend := lftN_end f cs i (by rw [← HM.out]; exact hlt) k (by rw [← HXX.out, ← HN.out]; exact HK.out.symm) a HA.out
        rw [← HE.out] at hend
        have HEND := Lib.hid hend
        have hsz5 := size_zs q
        have HSZ5 := Lib.hid hsz5
        clear hlot hlo5 hg5 hover hend hsz5 e1 e2 e3 e4 e5 C1
        by_cases hk0 : 0 < k
        · go_wp2_with fail
          exact ⟨⟨i + 1, a + n, by omega, rfl, HNX.out, rfl, by rw [HEND.out, if_neg (by omega)]; rfl, HLO5.out, HB5.out⟩, by simp [intOf]; omega⟩
        · go_wp2_with fail
          exact ⟨⟨i + 1, a + n, by omega, rfl, HNX.out, rfl, by rw [HEND.out, if_pos (by omega)], HLO5.out, HB5.out⟩, by simp [intOf]; omega⟩
      · have HK : Hid (0 = kpt cs i n) := by unfold Hid kpt; rw [if_neg (by rw [← HCN.out]; exact hci)]
        obtain ⟨q, hq⟩ : ∃ q, q = n - 0 := ⟨_, rfl⟩
        have hqk : q = n := by omega
        have HQ := Lib.hid hq
        have C1 : Hid (∀ t : Grow wr, Calls Tryd.prog 64 #[.string ⟨#[0]⟩, .int .i64 (n : Nat)] t.val fun e w' => e = .returned (.string (zs q)) ∧ Below t.val.heap.size t.val w') := fun t => by rw [hqk]; exact repeatW n t.val (by omega)
        have HQK := Lib.hid hqk
        have hqn : q ≤ n := by omega
        have hqn2 : n ≤ q := by omega
        clear hq hqk
        go_wp2_with fail
        have e0 : (x.size : Int) = (n : Int) := by rw [HN.out]
        have e4 : (a : Int) ≤ (S.size : Int) := by omega
        refine wp_region_fam_tail 10 (by kernel_rfl) (by kernel_rfl) Grow.val (Grow.start wr) ?_
        simp only [List.take_succ_cons, List.take_zero, List.drop_succ_cons, List.drop_zero]
        repeat go_big_quiet_step ((with_reducible refine Calls.fam_of (C1.out _) (Grow.more _)))
        refine wpQuiet_nil ?_
        intro t
        have hlot := HLO.out.grown (r := none) ⟨t.below.os, t.below.tape, t.below.output, t.below.size, fun k hk _ => t.below.block k hk⟩ (by simp)
        refine wpList_copy_loose rfl _ _ 30 9 rfl Tryd.underlying30 (by kernel_rfl) _ _ _ (zs q) rfl rfl hlot (a + 0) ?hA ?hle ?hfit ?_
        case hA =>
          intro h
          rw [size_zs] at h
          rw [if_neg (show ¬ capB = a by omega), Nat.add_zero]
        case hle => rw [size_zs]; omega
        case hfit => rw [length_overL f cs i (by rw [← HM.out]; omega), HSR.out, size_zs]; omega
        intro w5 hlo5 hg5
        have hover : overAt (overL f cs i) (a + 0) (bs (zs q)) = overL f cs (i + 1) := by
          rw [HQ.out]
          exact overL_next f cs i (by rw [← HM.out]; exact hlt) 0 n (by rw [← HXX.out, ← HN.out]; exact HK.out.symm) (by rw [← HXX.out, HN.out]) a HA.out
        rw [hover] at hlo5
        have HLO5 := Lib.hid hlo5
        have HB5 := Lib.hid (HBR.out.trans ((t.below.mono (HBR.out.size)).trans (grown_below hg5 (by omega) (Nat.le_trans HBR.out.size t.below.size))))
        have hend := lftN_end f cs i (by rw [← HM.out]; exact hlt) 0 (by rw [← HXX.out, ← HN.out]; exact HK.out.symm) a HA.out
        rw [← HE.out] at hend
        have HEND := Lib.hid hend
        have hsz5 := size_zs q
        have HSZ5 := Lib.hid hsz5
        clear hlot hlo5 hg5 hover hend hsz5 e4 C1
        go_wp2_with fail
        exact ⟨⟨i + 1, a + n, by omega, rfl, HNX.out, rfl, by rw [HEND.out, if_pos rfl], HLO5.out, HB5.out⟩, by simp [intOf]; omega⟩
    · have hiM : i = M := by omega
      have hEE : E = (leftL f cs).length := by rw [HE.out, hiM, HM.out]; rfl
      have hfin := overL_end f cs
      have hES : E ≤ S.size := by have h1 := length_leftL f cs; rw [HSR.out] at h1; omega
      have hcE : E ≤ capB := by omega
      have HFIN := Lib.hid hfin
      have HEE := Lib.hid hEE
      have HIM := Lib.hid hiM
      have e1 : (E : Int) ≤ (capB : Int) := by omega
      clear hfin hEE hiM
      go_wp2_with (with_reducible refine wpList_bytes_string (o := ⟨some 65, _, _, _, _, _⟩) rfl 30 9 _ rfl Tryd.underlying30 Tryd.underlying5 Tryd.underlying9 gB 0 E E ?hx (leftL f cs) ?hl ?hc ?_)
      case hx => rfl
      case hl => exact HEE.out.symm
      case hc =>
        intro j hj
        have h1 := HLO.out.cells j (by rw [length_overL f cs i (by rw [← HM.out]; omega), HSR.out]; omega)
        have h2 : (leftL f cs).getD j 0 = (overL f cs i).getD j 0 := by
          rw [← HFIN.out, getD_take _ _ _ (by rw [← HEE.out]; exact hj), HIM.out, HM.out]
        rw [Nat.zero_add, h1, h2]
      go_ret
      exact ⟨rfl, HB0.out.trans (HBR.out.mono HB0.out.size)⟩
end Go.Proofs.YtamaefnlicloaaaDoor
