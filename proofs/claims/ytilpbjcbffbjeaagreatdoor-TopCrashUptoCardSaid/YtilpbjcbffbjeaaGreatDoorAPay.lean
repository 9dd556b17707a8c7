/- The audit's payloads: the records that stand whole, one behind the other, to a loop over a function. -/
import Derived.RangeFuncNested
import Derived.RangeFuncBound
import Derived.RangeFuncCalls
import Derived.RangeFuncLeaves
import Derived.Shelf.Abstract
import Derived.Shelf.RegionOpen
import Derived.WalkKit
import Derived.OwnWalkIn
import Derived.TacticsInMore
import Derived.LoopNIn
import Derived.LoopIn
import Derived.Maps.AppendAt
import Derived.Test.YtilpbjcbffbjeaaGreatDoorPkF
namespace Go.Proofs.YtilpbjcbffbjeaaGreatDoor
set_option linter.unusedVariables false
set_option maxRecDepth 100000
open Go.RowKit Go.Shelf
attribute [local go_sem] Oper.semAt_some callVal
/-- What comes: the place behind a record, its payload. -/
abbrev Pay := { x : Nat × ByteArray // x.1 ≤ 1099511627776 ∧ x.2.size ≤ 16384 }
def Pay.enc (x : Pay) : Array Value := #[.int .i64 (x.1.1 : Nat), .string x.1.2]
def payP (x : Pay) : List Nat := bs x.1.2
def endOf (l : List Pay) : Nat := (l.getLast?.map fun x => x.1.1).getD 0
theorem endOf_snoc (l : List Pay) (x : Pay) : endOf (l ++ [x]) = x.1.1 := by simp [endOf]
/-- What a round keeps: the box of the bytes. -/
def KeepB (Bn : Nat) (s : ByteArray) (A B : World) : Prop := Boxed A Bn 9 (.string s) → Boxed B Bn 9 (.string s)
theorem keepB_t {Bn : Nat} {s : ByteArray} {A B C : World} (h : KeepB Bn s A B) (k : KeepB Bn s B C) : KeepB Bn s A C := fun x => k (h x)
theorem keepB_b {Bn : Nat} {s : ByteArray} {w : World} (W : World) (l : Nat) (o o' : Obj) (_ : w.heap.size ≤ l) (h : W.heap[l]? = some o) (hc : o.isCells = false) (_ : o.isWalk = false) : KeepB Bn s W (W.putObj l o') :=
  fun x => x.kept (grownBy_putObj' W l o') (fun e => by cases e; rw [show W.heap[Bn]? = _ from x] at h; cases h; cases hc)
theorem bxBelow {W W' : World} {B : Nat} {t : TypeId} {v : Value} (h : Boxed W B t v) {A : Nat} (hb : Below A W W') (hA : B < A) : Boxed W' B t v := (hb.block B hA).trans h
/-- What the whole of the bytes gives. -/
def PayAll (s : ByteArray) (xs : List Pay) : Prop := xs.map payP = scan (bs s) ∧ endOf xs = lens (xs.map payP)
def PayPre (s : ByteArray) (xs : List Pay) : Prop := xs.map payP <+: scan (bs s)
set_option maxHeartbeats 2000000 in
theorem pay1W (n l Bn : Nat) (hn : 1 ≤ n) (s : ByteArray) (hs : s.size ≤ 1048576) (J Jx : List Pay → World → Prop) (W : World) (hJ : AbidesFrom W.heap.size J)
    (hY : ∀ pre x W1, J pre W1 → pre.length < s.size + 1 → YieldAt Fence.wide (n - 1) Tryz.prog l (Pay.enc x) W1 fun e W' =>
      (e = .returned (.bool true) ∧ J (pre ++ [x]) W' ∧ KeepB Bn s W1 W') ∨ (e = .returned (.bool false) ∧ Jx (pre ++ [x]) W'))
    (hBn : Boxed W Bn 9 (.string s)) (h0 : J [] W) :
    CallsIn Fence.wide n Tryz.prog 116 #[.func (.yield l) #[] #[], .pointer (some ⟨Bn, 0, none⟩)] W fun e W' => (∃ v, e = .returned v) ∧
      ((∃ xs, PayAll s xs ∧ J xs W') ∨ (∃ pre, PayPre s pre ∧ Jx pre W')) := by
  have hm : ∀ c ∈ bs s, c < 256 := bs_lt s
  have HM := Lib.hid hm
  clear hm
  refine callsIn_of_wp Tryz.func116 rfl trivial ?_ rfl
  simp only [Tryz.ntmps116, List.size_toArray, List.length_cons, List.length_nil, Nat.reduceAdd, Nat.reduceSub, Array.replicate_succ, Array.replicate_zero, List.push_toArray, List.append_toArray, List.nil_append, List.cons_append]
  have hcell0 := hBn.cell
  gi_wp2
  gi_loopw [3, 4] (fun v3 v4 wr => ∃ (pre : List Pay) (at_ : Nat), v3 = .int .i64 (at_ : Nat) ∧ v4 = .int .i64 ((pre.length + 1 : Nat) : Int) ∧ ScanAt (bs s) 0 (pre.map payP) at_ ∧ endOf pre = at_ ∧ J pre wr ∧ Boxed wr Bn 9 (.string s))
    (fun v3 _ _ => s.size + 1 - (intOf v3).toNat)
  case atStart => exact ⟨[], 0, rfl, rfl, ScanAt.start _ _ (Nat.zero_le _), rfl, h0, hBn⟩
  case round =>
    obtain ⟨pre, at_, rfl, rfl, hsc, he, hJs, hb⟩ := hrel
    have hle := hsc.le
    rw [length_bs] at hle
    have hlen : 19 * pre.length ≤ at_ := by have := hsc.pos; have := lens_ge (pre.map payP); rw [List.length_map] at this; omega
    have hcell : wr.cell? ⟨Bn, 0, none⟩ = some (.string s) := hb.cell
    have hWh := wholeW s (at_ : Nat) wr (by omega)
    have E : wholeAt s (at_ : Nat) = (whole ((bs s).drop at_)).map fun x => (x.1, x.2, at_ + (19 + x.2.length)) := by
      unfold wholeAt; rw [if_neg (by omega), Int.toNat_natCast]
    rw [E] at hWh
    have hJ2 : ∀ w2, Below wr.heap.size wr w2 → J pre w2 := fun w2 h => hJ pre wr w2 none hJs ⟨h.os, h.tape, h.output, h.size, fun k hk _ => h.block k hk⟩ (fun r e => by cases e)
    have HJ2 := Lib.hid hJ2
    have HSC := Lib.hid hsc
    have HE := Lib.hid he
    have HB := Lib.hid hb
    have HY := Lib.hid hY
    have HLE := Lib.hid hle
    have HLN := Lib.hid hlen
    clear hJ2 hsc he hb E hJs hY hle hlen h0
    cases hw : whole ((bs s).drop at_) with
    | none =>
      rw [hw] at hWh
      have HWh := Lib.hid hWh
      have HW0 := Lib.hid hw
      clear hWh hw
      gi_wp2_with (refine ⟨trivial, ?_⟩; gi_at_call 72; refine (callsIn_wide.2 HWh.out).mono ?_; rintro e w2 ⟨rfl, hb2⟩; simp only [wholeV, Option.map_none])
      refine ⟨fun _ h => (by cases h), ?_⟩
      gi_wp2
      (try simp only [Exit.inBlock, Exit.then]); refine bodyPost_ret (results_none rfl _ _ _) rfl ?_
      refine ⟨⟨_, rfl⟩, .inl ⟨pre, ⟨?_, ?_⟩, HJ2.out _ hb2⟩⟩
      · have := HSC.out.done (fun p => by rw [HW0.out]; simp)
        rwa [List.drop_zero] at this
      · rw [HE.out, HSC.out.pos, Nat.zero_add]
    | some x =>
      obtain ⟨n', p⟩ := x
      obtain ⟨hp1, hp2, hp3, _⟩ := whole_some (fun c hc => HM.out c (List.mem_of_mem_drop hc)) hw
      have hpl : ∀ c ∈ p, c < 256 := by
        obtain ⟨_, _, _, B, e⟩ := whole_some (fun c hc => HM.out c (List.mem_of_mem_drop hc)) hw
        intro c hc
        refine HM.out c (List.mem_of_mem_drop (i := at_) ?_)
        rw [e]; unfold recL; simp [hc]
      have hlw := length_whole (fun c hc => HM.out c (List.mem_of_mem_drop hc)) hw
      rw [List.length_drop, length_bs] at hlw
      rw [hw] at hWh
      have HWh := Lib.hid hWh
      have HW0 := Lib.hid hw
      have HPL := Lib.hid hpl
      have HLW := Lib.hid hlw
      have HP3 := Lib.hid hp3
      clear hWh hw hpl hlw hp3
      by_cases hk : n' = pre.length + 1
      · subst hk
        obtain ⟨e', he'⟩ : ∃ e', e' = at_ + (19 + p.length) := ⟨_, rfl⟩
        obtain ⟨x, hx⟩ : ∃ x : Pay, x.1 = (e', strOf p) := ⟨⟨(e', strOf p), by have := HLW.out; have := HLE.out; simp only; omega, by rw [size_strOf]; exact HP3.out⟩, rfl⟩
        have hxp : payP x = p := by unfold payP; rw [hx]; exact bs_strOf _ HPL.out
        have hxe : x.enc = #[.int .i64 (e' : Nat), .string (strOf p)] := by unfold Pay.enc; rw [hx]
        have hxs : ScanAt (bs s) 0 ((pre ++ [x]).map payP) e' := by
          rw [List.map_append, List.map_singleton, hxp, he']
          exact HSC.out.next HM.out (by rw [HW0.out, List.length_map])
        have HXS := Lib.hid hxs
        have HXE : Hid (endOf (pre ++ [x]) = e') := by unfold Hid; rw [endOf_snoc, hx]
        have HX1 := Lib.hid hx
        have HEP := Lib.hid he'
        have hY2 : ∀ w2, Below wr.heap.size wr w2 → _ := fun w2 h => HY.out pre x w2 (HJ2.out w2 h) (by have := HLN.out; have := HLE.out; omega)
        rw [hxe] at hY2
        have HY2 := Lib.hid hY2
        clear hxp hxe hxs hx he' hY2
        gi_wp2_with (refine ⟨trivial, ?_⟩; gi_at_call 72; refine (callsIn_wide.2 HWh.out).mono ?_; rintro e w2 ⟨rfl, hb2⟩; simp only [wholeV, Option.map_some]; rw [← HEP.out]; obtain ⟨fn, tmps, assign, body, hy, hR⟩ := HY2.out w2 hb2)
        refine hR.mono ?_
        rintro e W3 (⟨rfl, hJ3, hk3⟩ | ⟨rfl, hJx3⟩)
        · gi_wp2
          have := HEP.out
          have := HLW.out
          have := HLE.out
          refine ⟨⟨pre ++ [x], e', rfl, by rw [List.length_append, List.length_singleton]; congr 1, HXS.out, HXE.out, hJ3, hk3 (bxBelow HB.out hb2 HB.out.lt)⟩, by simp only [intOf]; omega⟩
        · gi_wp2
          (try simp only [Exit.inBlock, Exit.then]); refine bodyPost_ret (results_none rfl _ _ _) rfl ?_
          refine ⟨⟨_, rfl⟩, .inr ⟨pre ++ [x], ?_, hJx3⟩⟩
          obtain ⟨f, _, hg⟩ := HXS.out.go
          rw [List.drop_zero] at hg
          exact ⟨_, hg⟩
      · have hne : ((n' : Nat) : Int) ≠ (pre.length : Int) + 1 := by omega
        gi_wp2_with (refine ⟨trivial, ?_⟩; gi_at_call 72; refine (callsIn_wide.2 HWh.out).mono ?_; rintro e w2 ⟨rfl, hb2⟩; simp only [wholeV, Option.map_some])
        refine ⟨fun _ h => (by cases h), ?_⟩
        gi_wp2
        (try simp only [Exit.inBlock, Exit.then]); refine bodyPost_ret (results_none rfl _ _ _) rfl ?_
        refine ⟨⟨_, rfl⟩, .inl ⟨pre, ⟨?_, ?_⟩, HJ2.out _ hb2⟩⟩
        · have := HSC.out.done (fun q => by rw [HW0.out, List.length_map]; simp; intro h; exact absurd h hk)
          rwa [List.drop_zero] at this
        · rw [HE.out, HSC.out.pos, Nat.zero_add]
end Go.Proofs.YtilpbjcbffbjeaaGreatDoor
