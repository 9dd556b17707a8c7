/- The walk of Sum at a hash of 32 bits: the sum of all that was written.
   The walks of Sum, Sum256, Sum384.
   The audit's first and next: a chain of sums. -/
import Derived.Test.YtilpbjcbffbjeaaGreatDoorPkU
import Derived.Test.YtilpbjcbffbjeaaGreatDoorPkT
import Derived.Test.YtilpbjcbffbjeaaGreatDoorPkF
import Derived.Test.YtilpbjcbffbjeaaGreatDoorPkB
namespace Go.Proofs.YtilpbjcbffbjeaaGreatDoor
set_option linter.unusedVariables false
open Go.RowKit
def slcLen : Value → Nat
  | .slice _ n _ => n
  | _ => 0
/-- A slice of bytes of the call's own, laid open. -/
def Ends (w : World) (base : Nat) (v : Value) (l : List Nat) : Prop := ∃ g cap, v = .slice (some ⟨g, 0, none⟩) l.length cap ∧ Owns w base 5 v l
theorem Owns.ends {w : World} {base : Nat} {v : Value} {l : List Nat} (h : Owns w base 5 v l) (h0 : 0 < l.length) : Ends w base v l := by
  obtain ⟨g, cap, rfl, _⟩ := h.form h0
  exact ⟨g, cap, rfl, h⟩
set_option maxRecDepth 100000 in
set_option maxHeartbeats 1000000 in
theorem sum32 (B : Nat) (t : List Nat) (w : World) (hH : IsH32 w B t) (hsz : t.length ≤ 576460752303423488) :
    Calls Tryz.prog 140 #[.pointer (some ⟨B, 0, none⟩)] w fun e w' => e = .returned (.string (strOf (Sha.sum Sha.k32 t))) ∧ Below w.heap.size w w' := by
  obtain ⟨v32, v64, blk, hblk, hst⟩ := hH
  obtain ⟨L, hL⟩ : ∃ L, t.length = L := ⟨_, rfl⟩
  rw [hL] at hblk hsz
  have HST := Lib.hid hst
  have HL := Lib.hid hL
  have hBlt := hblk.lt
  clear hst hL
  go_enter Tryz.func140, Tryz.ntmps140
  go_wp2_with (first | (refine wpList_load_row rfl 249 _ rfl B rfl 249 _ (0, 0) _ hblk.at_ Tryz.underlying249 rfl (by rw [List.size_toArray, length_hcells hblk.len]; kernel_rfl) ?_) | (with_reducible refine wpList_run (o := ⟨some 3, _, _, _, _, _⟩) rfl (.pointer (some ⟨w.heap.size, 0, none⟩)) (w.alloc (.cells (hcells zk zf zf zf 0).toArray 249)) (by kernel_rfl) ?_) | (refine wpList_new_blk hblk.len hblk.one rfl 249 _ _ rfl rfl rfl rfl (by kernel_rfl) ?_; intro w1 hc1 hb1 hs1))
  generalize hW : w1.alloc (Obj.cells #[Value.int IntKind.u8 128] 5) = W
  have H : HBlk W w.heap.size kc32 v32 v64 blk L ∧ HBlk W B kc32 v32 v64 blk L ∧ W.heap.size = w.heap.size + 2 ∧ Below w.heap.size w W ∧ Owns W (w.heap.size + 1) 5 (.slice (some ⟨w.heap.size + 1, 0, none⟩) 1 1) [128] := by
    subst hW
    have h1 := hblk.same (hb1.block B hBlt)
    refine ⟨hc1.same (heap_lt (by omega)), h1.same (heap_lt (by omega)), by simp [hs1], hb1.alloc (by omega) _, ?_⟩
    have := Owns.lit (e := 5) (base := w.heap.size + 1) w1 [128] #[.int .u8 128] (by omega) rfl (by decide)
    rw [hs1] at this
    exact this
  obtain ⟨hC, hB, hWs, hbW, hown0⟩ := H
  have HC := Lib.hid hC
  have HB := Lib.hid hB
  have HWS := Lib.hid hWs
  have HBW := Lib.hid hbW
  clear hW hC hB hWs hbW hc1 hb1 hs1 hblk
  go_loopw [4] (fun v wr => ∃ j : Nat, j ≤ Sha.padN Sha.k32 L ∧ Ends wr (w.heap.size + 1) v (128 :: List.replicate j 0) ∧ Below (w.heap.size + 1) W wr) (fun v _ => 200 - slcLen v)
  case atStart => exact ⟨0, by omega, ⟨_, _, rfl, hown0⟩, Below.refl _ _⟩
  case round =>
    obtain ⟨j, hj, ⟨g, cap, rfl, hown⟩, hbel⟩ := hrel
    have hszr : w.heap.size + 2 ≤ wr.heap.size := by have := hbel.size; have := HWS.out; omega
    have hBr : HBlk wr B kc32 v32 v64 blk L := HB.out.same (hbel.block B (by omega))
    have q0 : ∀ t : Grow wr, t.val.cell? ⟨B, 160, none⟩ = some (.int .i64 (L : Nat)) := fun t => (hBr.grow t).scell
    have q1 : ∀ t : Grow wr, t.val.cell? ⟨B, 15, none⟩ = some (.int .i64 8) := fun t => (hBr.grow t).kcell rfl
    have q2 : ∀ t : Grow wr, t.val.cell? ⟨B, 13, none⟩ = some (.int .i64 64) := fun t => (hBr.grow t).kcell rfl
    have hpad : Sha.padN Sha.k32 L = (119 - L % 64) % 64 := rfl
    have hlen : (128 :: List.replicate j 0).length = j + 1 := by simp
    rw [hlen]
    have hpad64 : Sha.padN Sha.k32 L < 64 := by rw [hpad]; omega
    have HP := Lib.hid hpad
    have HO := Lib.hid hown
    have HBL := Lib.hid hbel
    have HLN := Lib.hid hlen
    clear hpad hown hbel hBr hlen
    by_cases hlt : j < Sha.padN Sha.k32 L
    · have hne : (((L : Int) + ((j : Int) + 1) + 8) % 64 != 0) = true := by
        have := HP.out
        rw [bne_iff_ne]; omega
      have hj1 : ((j + 1 : Nat) : Int) = (j : Int) + 1 := by omega
      go_wp2_with fail
      refine wp_region_fam (by kernel_rfl) (by kernel_rfl) Grow.val (Grow.start wr) ?_
      repeat go_big_quiet_step (fail)
      refine wpQuiet_nil ?_
      intro tt
      have hvb : ∀ k, (Value.slice (some ⟨g, 0, none⟩) (j + 1) cap).ownBlock = some k → w.heap.size + 1 ≤ k := fun k hk => (HO.out.block (by rw [HLN.out]; exact hk)).1
      have hown1 : Owns tt.val (w.heap.size + 1) 5 (.slice (some ⟨g, 0, none⟩) (j + 1) cap) (128 :: List.replicate j 0) := by have := HO.out.grow tt; rw [HLN.out] at this; exact this
      have HO1 := Lib.hid hown1
      have hszt := tt.below.size
      clear hown1
      go_wp2_with (at_builtin; refine wpList_append_bytes rfl _ _ 126 rfl Tryz.underlying126 info5 rfl (HO1.out.alloc _) ⟨tt.val.heap.size, 0, none⟩ 1 1 [0] rfl rfl ?c1 ?c2 ?c3 ?_)
      case c1 => intro i hi; obtain rfl : i = 0 := by omega
                 simp [Addr.add]
      case c2 => rw [HLN.out]; omega
      case c3 => simp; omega
      intro v' w2 hown2 hgrow2 _
      have he : Ends w2 (w.heap.size + 1) v' (128 :: List.replicate (j + 1) 0) := by
        rw [List.replicate_succ']
        exact hown2.ends (by simp)
      have hbel2 : Below (w.heap.size + 1) W w2 := (((HBL.out.trans (tt.below.mono (by omega))).alloc (by omega) _).grown hgrow2 (by simp; omega) hvb)
      obtain ⟨g', cap', rfl, hown3⟩ := he
      have hlen2 : (128 :: List.replicate (j + 1) 0).length = j + 2 := by simp
      rw [hlen2]
      clear hown2 hgrow2
      go_wp2_with fail
      go_roundw
      case rel => exact ⟨j + 1, hlt, ⟨g', cap', by rw [hlen2], by rw [hlen2] at hown3; exact hown3⟩, hbel2⟩
      case measure => simp [slcLen]; omega
    · have hne : (((L : Int) + ((j : Int) + 1) + 8) % 64 != 0) = false := by
        have := HP.out
        rw [bne_eq_false_iff_eq]; omega
      have hj1 : ((j + 1 : Nat) : Int) = (j : Int) + 1 := by omega
      have HJ : Hid (j = Sha.padN Sha.k32 L) := by show j = _; omega
      have hj64 : j < 64 := by have := HJ.out; omega
      go_wp2_with fail
      refine wp_region_fam (by kernel_rfl) (by kernel_rfl) Grow.val (Grow.start wr) ?_
      repeat go_big_quiet_step (fail)
      refine wpQuiet_nil ?_
      intro tt
      have hvb : ∀ k, (Value.slice (some ⟨g, 0, none⟩) (j + 1) cap).ownBlock = some k → w.heap.size + 1 ≤ k := fun k hk => (HO.out.block (by rw [HLN.out]; exact hk)).1
      have hown1 : Owns tt.val (w.heap.size + 1) 5 (.slice (some ⟨g, 0, none⟩) (j + 1) cap) (128 :: List.replicate j 0) := by have := HO.out.grow tt; rw [HLN.out] at this; exact this
      have HO1 := Lib.hid hown1
      have hszt := tt.below.size
      have HQ0 := Lib.hid q0
      have c15 := q1 tt
      clear hown1 q0 q1 q2 hlt hj
      go_wp2_with (refine wpList_append_zeros rfl _ _ 126 3 .i64 rfl Tryz.underlying126 Tryz.underlying3 info5 rfl HO1.out (by simp) 0 rfl ?c1 ?c2 ?_)
      case c1 => rw [HLN.out]; omega
      case c2 => omega
      intro v2 w2 hown2 hgrow2 _
      have hbel2 : Below (w.heap.size + 1) W w2 := ((HBL.out.trans (tt.below.mono (by omega))).grown hgrow2 (by omega) hvb)
      obtain ⟨pre, hpre⟩ : ∃ pre, 128 :: (List.replicate j 0 ++ List.replicate 0 0) = pre := ⟨_, rfl⟩
      have hown3 : Owns w2 (w.heap.size + 1) 5 v2 pre := by rw [← hpre]; simpa using hown2
      have hpl : 0 < pre.length ∧ pre.length ≤ 200 := by rw [← hpre]; simp; omega
      have HPRE := Lib.hid hpre
      have HOWN := Lib.hid (hown3.ends hpl.1)
      have HBEL2 := Lib.hid hbel2
      have hpl1 := hpl.1
      have hpl2 := hpl.2
      clear hown2 hgrow2 hown3 hpre hbel2 hpl c15 hne
      go_wp2_with fail
      go_loopw [4, 5] (fun v p wr => ∃ m : Nat, m ≤ 8 ∧ (∃ q : Int, Hid (q = 56 - 8 * (m : Int)) ∧ p = .int .i64 q) ∧ Ends wr (w.heap.size + 1) v (pre ++ (Sha.bytesOf 64 (8 * L)).take m) ∧ Below (w.heap.size + 1) W wr) (fun _ p _ => (intOf p + 8).toNat)
      case atStart => exact ⟨0, by omega, ⟨56, by unfold Hid; omega, rfl⟩, by simpa using HOWN.out, HBEL2.out⟩
      case round =>
        obtain ⟨m, hm, ⟨q, hq, rfl⟩, ⟨g2, cap2, rfl, hown⟩, hbel⟩ := hrel
        have hszr2 : w.heap.size + 2 ≤ wr.heap.size := by have := hbel.size; have := HWS.out; omega
        have c160 : wr.cell? ⟨B, 160, none⟩ = some (.int .i64 (L : Nat)) := (HB.out.same (hbel.block B (by omega))).scell
        have hlm : (pre ++ (Sha.bytesOf 64 (8 * L)).take m).length = pre.length + m := by
          rw [List.length_append, List.length_take]; simp [Sha.bytesOf]; omega
        rw [hlm] at hown ⊢
        have HM := Lib.hid hm
        have HO2 := Lib.hid hown
        have HBL2 := Lib.hid hbel
        have HLM := Lib.hid hlm
        clear hm hown hbel hlm
        by_cases hlt2 : m < 8
        · have q0 : 0 ≤ q := by have := hq.out; omega
          have q1 : q ≤ 56 := by have := hq.out; omega
          have hvb2 : ∀ k, (Value.slice (some ⟨g2, 0, none⟩) (pre.length + m) cap2).ownBlock = some k → w.heap.size + 1 ≤ k := fun k hk => (HO2.out.block hk).1
          clear hlt2
          go_wp2_with (at_builtin; refine wpList_append_bytes rfl _ _ 126 rfl Tryz.underlying126 info5 rfl (HO2.out.alloc _) ⟨wr.heap.size, 0, none⟩ 1 1 [8 * L / 2 ^ q.toNat % 256] rfl rfl ?d1 ?d2 ?d3 ?_)
          case d1 => intro i hi; obtain rfl : i = 0 := by omega
                     simp [Addr.add]
          case d2 => rw [HLM.out]; have := HM.out; omega
          case d3 => simp; omega
          intro v3 w3 hown3 hgrow3 _
          have hq' := hq.out
          have he : Ends w3 (w.heap.size + 1) v3 (pre ++ (Sha.bytesOf 64 (8 * L)).take (m + 1)) := by
            rw [bytesOf_take 64 (8 * L) m (by omega)]
            have e : q.toNat = 64 - 8 - 8 * m := by omega
            rw [← e]
            exact Owns.ends (by simpa using hown3) (by simp; omega)
          have hbel3 : Below (w.heap.size + 1) W w3 := (HBL2.out.alloc (by omega) _).grown hgrow3 (by simp; omega) hvb2
          have HE := Lib.hid he
          clear he hown3 hgrow3 hq'
          go_wp2_with fail
          go_roundw
          case rel =>
            have hq' := hq.out
            exact ⟨m + 1, by have := HM.out; omega, ⟨_, by show _ = _; omega, rfl⟩, HE.out, hbel3⟩
          case measure => simp [intOf]; omega
        · have hm8 : m = 8 := by have := HM.out; omega
          subst hm8
          have q8 : q = -8 := by have := hq.out; omega
          subst q8
          have hbytes : (Sha.bytesOf 64 (8 * L)).take 8 = Sha.bytesOf 64 (8 * L) := List.take_of_length_le (by simp [Sha.bytesOf])
          obtain ⟨fin, hfin⟩ : ∃ f, pre ++ Sha.bytesOf 64 (8 * L) = f := ⟨_, rfl⟩
          have hown2 : Owns wr (w.heap.size + 1) 5 (.slice (some ⟨g2, 0, none⟩) (pre.length + 8) cap2) fin := by
            have := HO2.out
            rw [hbytes, hfin] at this
            exact this
          have hfl : fin.length = pre.length + 8 := by have := HLM.out; rw [hbytes, hfin] at this; exact this
          obtain ⟨g3, cap3, hge, _, _, hcells⟩ := hown2.form (by omega)
          rw [hfl] at hge hcells
          injection hge with e1 e2 e3
          injection e1 with e1
          injection e1 with e1
          subst e1
          have hpadeq : fin = Sha.pad Sha.k32 L := by
            rw [← hfin, ← HPRE.out, HJ.out]
            unfold Sha.pad
            rw [Nat.mod_eq_of_lt (show 8 * L < 2 ^ 64 by omega)]
            simp [Sha.k32]
          have HFIN := Lib.hid hpadeq
          have HCELLS := Lib.hid hcells
          have HFL := Lib.hid hfl
          have hB2 : HBlk wr B kc32 v32 v64 blk L := HB.out.same (HBL2.out.block B (by omega))
          have hC2 : IsH32 wr w.heap.size t := ⟨v32, v64, blk, by rw [HL.out]; exact HC.out.same (HBL2.out.block _ (by omega)), HST.out⟩
          have HC2 := Lib.hid hC2
          have HB2 := Lib.hid hB2
          clear hlt2 hbytes hfin hown2 hfl hcells e2 e3 hpadeq hC2 hB2
          go_wp2_with (first | (with_reducible refine wpList_bytes_string (o := ⟨some 57, _, _, _, _, _⟩) rfl 126 9 _ rfl Tryz.underlying126 Tryz.underlying5 Tryz.underlying9 g2 0 (pre.length + 8) cap2 rfl fin ?e2 ?e3 ?_))
          case e2 => exact HFL.out
          case e3 => intro i hi; have := HCELLS.out i hi; simpa using this
          refine (write32 w.heap.size t (strOf fin) _ HC2.out ?_).mono ?_
          · rw [size_strOf, HFL.out, HL.out]; omega
          rintro e w4 ⟨rfl, hC4, hg4⟩
          rw [bs_strOf fin (by rw [HFIN.out]; exact Sha.pad_lt _ _)] at hC4
          obtain ⟨v32', v64', blk', hC5, hst5⟩ := hC4
          have hB4 := HB2.out.same (hg4.block B HB2.out.lt (by intro e; injection e; omega))
          have c0 := hB4.kcell (j := 0) rfl
          have HC5 := Lib.hid hC5
          go_wp2_with (first | (refine wpList_load_mid rfl 245 _ rfl w.heap.size 16 rfl _ _ HC5.out.range32 Tryz.underlying245 rfl (by rw [length_rowOf]; kernel_rfl) ?_) | (refine wpList_load_mid rfl 243 _ rfl w.heap.size 0 rfl _ _ HC5.out.range_k Tryz.underlying243 rfl (by kernel_rfl) ?_))
          refine (told32 v32' (Sha.stateOf Sha.k32 (t ++ fin)) (Sha.length_stateOf32 _) hst5.st _).mono ?_
          rintro e w5 ⟨rfl, hb5⟩
          go_wp2_with fail
          go_ret
          refine ⟨?_, ?_⟩
          · have e : t ++ fin = t ++ Sha.pad Sha.k32 t.length := by rw [HFIN.out, HL.out]
            rw [e]
            rfl
          · have h1 : Below w.heap.size w wr := HBW.out.trans (HBL2.out.mono (by omega))
            exact (h1.trans (grown_below hg4 (Nat.le_refl _) (by omega))).trans (hb5.mono (by have := hg4.size; omega))
end Go.Proofs.YtilpbjcbffbjeaaGreatDoor
namespace Go.Proofs.YtilpbjcbffbjeaaGreatDoor
set_option linter.unusedVariables false
open Go.RowKit
theorem isH32_new {w : World} {b : Nat} (h : HBlk w b kc32 i32 zf zf 0) : IsH32 w b [] := ⟨i32, zf, zf, h, ⟨fun j _ => by rw [Sha.stateOf_nil]; rfl, fun j hj => by simp at hj, fun c hc => by simp at hc⟩⟩

theorem IsH32.lt {w : World} {b : Nat} {t : List Nat} (h : IsH32 w b t) : b < w.heap.size := by obtain ⟨_, _, _, h, _⟩ := h; exact h.lt

theorem IsH32.same {w w' : World} {b : Nat} {t : List Nat} (h : IsH32 w b t) (e : w'.heap[b]? = w.heap[b]?) : IsH32 w' b t := by obtain ⟨v, u, k, h, hs⟩ := h; exact ⟨v, u, k, h.same e, hs⟩

set_option maxHeartbeats 400000 in
theorem sumK0 (s : ByteArray) (w : World) (hs : s.size ≤ 576460752303423488) :
    Calls Tryz.prog 117 #[.int .i64 0, .string s] w fun e w' => e = .returned (.tuple #[.string (strOf (Sha.sum Sha.k32 (bs s))), .int .i64 0]) ∧ Below w.heap.size w w' := by
  go_enter Tryz.func117, Tryz.ntmps117
  go_wp2_with fail
  refine (new0 _).mono ?_
  rintro e w1 ⟨b, rfl, hb, hbel, hge⟩
  have hH := Lib.hid (isH32_new hb)
  clear hb
  go_wp2_with fail
  refine (write32 b [] s _ hH.out (by simp; omega)).mono ?_
  rintro e w2 ⟨rfl, hH2, hg2⟩
  have HH2 := Lib.hid hH2
  clear hH2
  go_wp2_with fail
  refine (sum32 b _ _ HH2.out (by simp [length_bs]; omega)).mono ?_
  rintro e w3 ⟨rfl, hb3⟩
  go_wp2_with fail
  go_ret2
  exact ⟨rfl, (hbel.trans (grown_below hg2 hge hbel.size)).trans (hb3.mono (by have := hbel.size; have := hg2.size; omega))⟩


set_option maxHeartbeats 400000 in
theorem sum256W (s : ByteArray) (w : World) (hs : s.size ≤ 576460752303423488) :
    Calls Tryz.prog 91 #[.string s] w fun e w' => e = .returned (.string (strOf (Sha.sum Sha.k32 (bs s)))) ∧ Below w.heap.size w w' := by
  go_enter Tryz.func91, Tryz.ntmps91
  go_wp2_with fail
  refine (sumK0 s _ hs).mono ?_
  rintro e w1 ⟨rfl, hb⟩
  go_wp2_with fail
  go_ret
  exact ⟨rfl, hb⟩

end Go.Proofs.YtilpbjcbffbjeaaGreatDoor
namespace Go.Proofs.YtilpbjcbffbjeaaGreatDoor
set_option linter.unusedVariables false
set_option maxRecDepth 100000
open Go.RowKit
/-- The link behind a link and a text. -/
def nextL (link text : List Nat) : List Nat := Sha.sum Sha.k32 (link ++ (num text.length 4 ++ text))
def firstL : List Nat := List.replicate 32 0
theorem length_nextL (a b : List Nat) : (nextL a b).length = 32 := Sha.length_sum32 _
theorem nextL_lt (a b : List Nat) : ∀ c ∈ nextL a b, c < 256 := Sha.sum_lt _ _
theorem length_firstL : firstL.length = 32 := rfl
theorem firstL_lt : ∀ c ∈ firstL, c < 256 := by intro c hc; rw [List.eq_of_mem_replicate hc]; omega
theorem zs_firstL : zs 32 = strOf firstL := by decide
theorem afirstW (w : World) : Calls Tryz.prog 89 #[] w fun e w' => e = .returned (.string (strOf firstL)) ∧ Below w.heap.size w w' := by
  have H := Lib.hid (repeatW 32 w (by decide))
  go_enter Tryz.func89, Tryz.ntmps89
  go_wp2_with fail
  refine H.out.mono ?_
  rintro e w1 ⟨rfl, hb⟩
  rw [zs_firstL]
  go_wp2_with fail
  go_ret
  exact ⟨rfl, hb⟩
theorem u8_shr (n k : Nat) : IntKind.u8.wrap ((n : Int) / 2 ^ k) = ((n / 2 ^ k % 256 : Nat) : Int) := by rw [IntKind.wrap_u8, shrN]; omega
set_option maxHeartbeats 1000000 in
theorem anextW (l t : ByteArray) (w : World) (hl : l.size ≤ 1048576) (ht : t.size ≤ 1048576) :
    Calls Tryz.prog 60 #[.string l, .string t] w fun e w' => e = .returned (.string (strOf (nextL (bs l) (bs t)))) ∧ Below w.heap.size w w' := by
  obtain ⟨n, hn⟩ : ∃ n, n = t.size := ⟨_, rfl⟩
  obtain ⟨s, hs⟩ : ∃ s, s = l ++ strOf (num n 4) ++ t := ⟨_, rfl⟩
  have hsz : s.size ≤ 576460752303423488 := by rw [hs, ByteArray.size_append, ByteArray.size_append, size_strOf, length_num]; omega
  have hbs : Sha.sum Sha.k32 (bs s) = nextL (bs l) (bs t) := by
    rw [hs, bs_append, bs_append, bs_strOf _ (num_lt _ _), hn]; unfold nextL; rw [length_bs, List.append_assoc]
  have H := Lib.hid (fun w => sum256W s w hsz)
  rw [hbs] at H
  have hn' : n ≤ 1048576 := by omega
  have HS := Lib.hid hs.symm
  have HN := Lib.hid hn.symm
  have m1 : ¬ 9223372036854775807 < l.size + (strOf (num n 4)).size := by rw [size_strOf, length_num]; omega
  have m2 : ¬ 9223372036854775807 < (l ++ strOf (num n 4)).size + t.size := by rw [ByteArray.size_append, size_strOf, length_num]; omega
  clear hsz hbs hs hn
  go_enter Tryz.func60, Tryz.ntmps60
  go_wp2_with (with_reducible refine wpList_owned_string rfl 126 9 _ rfl Tryz.underlying126 Tryz.underlying5 Tryz.underlying9 rfl (Owns.lit w (num n 4) _ (Nat.le_refl _) ?lit (by rw [length_num]; decide)) ?_)
  case lit =>
    rw [HN.out]
    simp only [nums, num, List.map_cons, List.map_nil, List.toArray]
    have e1 : (n : Int) / 16777216 = ((n / 256 ^ 3 % 256 : Nat) : Int) := by omega
    have e2 : (n : Int) / 65536 = ((n / 256 ^ 2 % 256 : Nat) : Int) := by omega
    have e3 : (n : Int) / 256 % 256 = ((n / 256 ^ 1 % 256 : Nat) : Int) := by omega
    have e4 : (n : Int) % 256 = ((n / 256 ^ 0 % 256 : Nat) : Int) := by simp
    rw [e1, e2, e3, e4]
  rw [HS.out]
  refine (H.out _).mono ?_
  rintro e w1 ⟨rfl, hb⟩
  go_wp2_with fail
  go_ret
  exact ⟨rfl, ((Below.refl _ w).alloc (Nat.le_refl _) _).trans (hb.mono (by simp))⟩
end Go.Proofs.YtilpbjcbffbjeaaGreatDoor
