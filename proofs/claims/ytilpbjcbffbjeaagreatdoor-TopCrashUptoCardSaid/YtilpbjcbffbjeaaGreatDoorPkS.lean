/- The store's open: a log opened, its last entry.
   The store's opens, where the power stays: all logs are opened, the epoch goes up.
   The store's New and Open, where the power stays.
   The law's helpers: place, laid.
   The law's fixed calls.
   A commit of any kind where the power stays; two stores side by side; calls that came in. -/
import Derived.Test.YtilpbjcbffbjeaaGreatDoorPkR
import Derived.Deep.Upon
import Derived.StillTailTactics
import Derived.Test.YtilpbjcbffbjeaaGreatDoorPkD
namespace Go.Proofs.YtilpbjcbffbjeaaGreatDoor
set_option linter.unusedVariables false
set_option maxRecDepth 100000
open Go.RowKit
set_option linter.unusedSectionVars false
variable [Avoid]
/-- Strings are put behind strings of the call's own. -/
theorem run_appO {w : World} {base : Nat} {v : Value} {ss : List ByteArray} (hown : OwnsS w base v ss) (ty : TypeId) (x : Value) (ns : List ByteArray) (hx : Strs w x ns) (hsz : ss.length + ns.length ≤ 4194304) (hbase : base ≤ w.heap.size) :
    ∃ v' w', (Builtin.append_ #[28, 28] ty #[v, x]).run Tryz.prog w = .ok v' w' ∧ OwnsS w' base v' (ss ++ ns) ∧ w.grownBy w' v.ownBlock ∧ (v'.ownBlock = v.ownBlock ∨ v'.ownBlock = some w.heap.size) := by
  obtain ⟨i0, hi0, hz0, hz1, hz2⟩ := info_parts infoStr
  obtain ⟨p, c, rfl, hc⟩ := hx.form
  rcases Nat.eq_zero_or_pos ns.length with h0 | h0
  · have hn : ns = [] := List.length_eq_zero_iff.1 h0
    subst hn
    rw [List.append_nil]
    have hv : ∃ q n cap, v = .slice q n cap ∧ n ≤ cap := by
      rcases hown.2 with ⟨hv, _⟩ | ⟨g, cap, cur, hv, _, _, h3, _⟩
      · exact ⟨none, 0, 0, hv, Nat.le_refl _⟩
      · exact ⟨_, _, _, hv, h3⟩
    obtain ⟨q, n, cap, rfl, hle⟩ := hv
    refine ⟨_, w, run_append_nothing w 28 28 ty 9 i0 Tryz.underlying28 hi0 q n cap hle _ ?_, hown, ⟨rfl, rfl, rfl, Nat.le_refl _, fun _ _ _ => rfl⟩, .inl rfl⟩
    rcases p with _ | a
    · exact Src.ofNil w Tryz.underlying28 c
    · exact Src.ofSlice w Tryz.underlying28 a 0 c [] (by simp) (fun j u hu => by simp at hu) (fun u hu => by cases hu)
  · obtain ⟨b, off, rfl, _⟩ := hc 0 h0
    have hcell : ∀ j u, (ns.map Value.string)[j]? = some u → w.cell? ((⟨b, off, none⟩ : Addr).add j) = some u := by
      intro j u hu
      have hj : j < ns.length := by have := (List.getElem?_eq_some_iff.1 hu).1; rwa [List.length_map] at this
      obtain ⟨b', off', e, h1⟩ := hc j hj
      injection e with e
      injection e with e1 e2 _
      subst e1 e2
      rw [List.getElem?_map, List.getElem?_eq_getElem hj] at hu
      rw [List.getD_eq_getElem?_getD, List.getElem?_eq_getElem hj] at h1
      rw [← Option.some.inj hu]
      have e3 : (⟨b, off, none⟩ : Addr).add j = ⟨b, off + j, none⟩ := by
        unfold Addr.add
        by_cases hj0 : j = 0
        · subst hj0; rfl
        · simp [hj0]
      rw [e3]
      simpa using h1
    obtain ⟨v', w', h1, h2, h3, _, h5⟩ := run_append_own_at (P := Tryz.prog) w base 28 ty 9 i0 (.string ⟨#[]⟩) 1 16 Tryz.underlying28 hi0 hz0 hz1 hz2 rfl (by decide) v ss.length (ss.map Value.string) hown ⟨b, off, none⟩ ns.length c (ns.map Value.string)
      (by rw [List.length_map, Nat.mul_one]) hcell (fun u hu => by obtain ⟨s, _, rfl⟩ := List.mem_map.1 hu; rfl) (by unfold maxLen; omega) (by omega) hbase
    refine ⟨v', w', h1, ?_, h3, h5⟩
    unfold OwnsS
    rw [List.length_append, List.map_append]
    exact h2
theorem wpList_app_o {ops : Array Oper} {rest : List Oper} {o : Oper} {a : Act} {w : World} {Q : Exit → Act → World → Prop} {base : Nat} {v x : Value} {ss ns : List ByteArray}
    (hgd : Region.wanted o (yielded ops a.tmps) = true) (s y : Operand) (ho : o.op = .call { callee := .builtin .append, args := #[s, y], argTypes := #[28, 28] })
    (hs : a.eval s = v) (hy : a.eval y = x) (hown : OwnsS w base v ss) (hx : Strs w x ns) (hsz : ss.length + ns.length ≤ 4194304) (hbase : base ≤ w.heap.size)
    (h : ∀ v' w', OwnsS w' base v' (ss ++ ns) → w.grownBy w' v.ownBlock → wpList Tryz.prog ops Q rest (a.put o.dst v') w') : wpList Tryz.prog ops Q (o :: rest) a w := by
  obtain ⟨v', w', hr, h2, h3, _⟩ := run_appO hown o.type x ns hx hsz hbase
  refine wpList_step fun K hK => ?_
  rw [if_pos hgd]
  unfold Oper.wp
  simp [execOp, ho, resolve, invoke, builtin, hs, hy, hr, Result.andThen]
  exact hK _ _ (h v' w' h2 h3)
/-- A kept log in a block of its own. -/
def IsK (w : World) (k : Nat) (p : Option Nat) (n : Nat) (tx : ByteArray) : Prop := w.heap[k]? = some (.cells #[lpV p, .int .i64 (n : Nat), .string tx] 113 (0, 0))
section
variable {w w' : World} {k : Nat} {p q : Option Nat} {n m : Nat} {tx u : ByteArray}
theorem IsK.lt (h : IsK w k p n tx) : k < w.heap.size := (Array.getElem?_eq_some_iff.1 h).1
theorem IsK.c0 (h : IsK w k p n tx) : w.cell? ⟨k, 0, none⟩ = some (lpV p) := by rw [cell_of_row w k 0 _ _ _ h]; rfl
theorem IsK.c1 (h : IsK w k p n tx) : w.cell? ⟨k, 1, none⟩ = some (.int .i64 (n : Nat)) := by rw [cell_of_row w k 1 _ _ _ h]; rfl
theorem IsK.c2 (h : IsK w k p n tx) : w.cell? ⟨k, 2, none⟩ = some (.string tx) := by rw [cell_of_row w k 2 _ _ _ h]; rfl
theorem IsK.free (h : IsK w k p n tx) (j : Nat) : w.frozen? ⟨k, j, none⟩ = false := frozen_of_row w k j _ _ h
theorem IsK.keep {S : Nat → Prop} (h : IsK w k p n tx) (hc : Chg S w w') (hn : ¬ S k) : IsK w' k p n tx := (hc.block k h.lt hn).trans h
theorem IsK.below (h : IsK w k p n tx) (hb : Below w.heap.size w w') : IsK w' k p n tx := (hb.block k h.lt).trans h
theorem IsK.set (h : IsK w k p n tx) : IsK ((w.setCell ⟨k, 1, none⟩ (.int .i64 (m : Nat))).setCell ⟨k, 2, none⟩ (.string u)) k p m u := by
  unfold IsK
  rw [setCell_blk _ k 2 _ (setCell_blk w k 1 _ h)]; rfl
theorem IsK.set3 (h : IsK w k p n tx) : IsK (((w.setCell ⟨k, 0, none⟩ (lpV q)).setCell ⟨k, 1, none⟩ (.int .i64 (m : Nat))).setCell ⟨k, 2, none⟩ (.string u)) k q m u := by
  unfold IsK
  rw [setCell_blk _ k 2 _ (setCell_blk _ k 1 _ (setCell_blk w k 0 _ h))]; rfl
theorem IsK.load (h : IsK w k p n tx) : (loadVar 113 ⟨k, 0, none⟩).run Tryz.prog w = .ok (.agg #[lpV p, .int .i64 (n : Nat), .string tx]) w := by
  have h0 := h.c0
  have h1 := h.c1
  have h2 := h.c2
  simp [loadVar, isAgg, underlying, Tryz.underlying113, Result.andThen, loadCells, loadCellsFrom, Addr.add, run_load, h0, h1, h2]
theorem chg_set2 (w : World) (k : Nat) (x y : Value) : Chg (fun j => j = k) w ((w.setCell ⟨k, 1, none⟩ x).setCell ⟨k, 2, none⟩ y) :=
  (Chg.setCell (fun j => j = k) w rfl _).trans (Chg.setCell (fun j => j = k) _ rfl _)
theorem chg_set3 (w : World) (k : Nat) (x y z : Value) : Chg (fun j => j = k) w (((w.setCell ⟨k, 0, none⟩ x).setCell ⟨k, 1, none⟩ y).setCell ⟨k, 2, none⟩ z) :=
  (Chg.setCell (fun j => j = k) w rfl _).trans (chg_set2 _ k y z)
theorem Chg.belowK {B k : Nat} {w w' : World} (h : Chg (fun j => j = k) w w') (hB : B ≤ w.heap.size) (hk : B ≤ k) : Below B w w' := h.below hB (fun j hj e => by omega)
end
theorem Chg.over {S : Nat → Prop} {w w1 w2 : World} {k : Nat} (h : Chg S w w1) (h2 : Chg (fun j => j = k) w1 w2) (hk : w.heap.size ≤ k) : Chg S w w2 :=
  ⟨h2.os.trans h.os, h2.tape.trans h.tape, h2.output.trans h.output, Nat.le_trans h.size h2.size, fun j hj hn => (h2.block j (Nat.lt_of_lt_of_le hj h.size) (by omega)).trans (h.block j hj hn)⟩
theorem IsK.muts {w : World} {k : Nat} {p : Option Nat} {n : Nat} {tx : ByteArray} (h : IsK w k p n tx) : Muts (fun j => j = k) w := by
  intro j _ hk cur T fr hh
  subst hk
  rw [show w.heap[j]? = _ from h] at hh
  injection hh with hh
  injection hh with _ hT _
  subst hT
  unfold Fix
  decide
theorem At.overK {B b g cap k : Nat} {w0 w w' : World} {D : Dk} {p : Option Nat} {n : Nat} {tx : ByteArray} (h : At B w0 b g cap D w) (hk : IsK w k p n tx) (hc : Chg (fun j => j = k) w w') (hB : B ≤ k) (h1 : k ≠ b) (h2 : k ≠ g) : At B w0 b g cap D w' :=
  ⟨h.disk.keep hc (fun e => h1 e.symm) (fun e => h2 e.symm) hk.muts, h.below.trans (hc.belowK (Nat.le_trans h.le h.below.size) hB), h.bB, h.gB, h.le⟩
theorem LAt.overK {B b g cap lb k : Nat} {w0 w w' : World} {D : Dk} {L : Lg} {p : Option Nat} {n : Nat} {tx : ByteArray} (h : LAt B w0 b g cap lb D L w) (hk : IsK w k p n tx) (hc : Chg (fun j => j = k) w w') (hB : B ≤ k) (h1 : k ≠ b) (h2 : k ≠ g) (h3 : k ≠ lb) : LAt B w0 b g cap lb D L w' :=
  ⟨h.on.overK hk hc hB h1 h2, h.log.keep hc (fun e => h3 e.symm), h.lB⟩
theorem ownLit (w : World) (s : ByteArray) : OwnsS (w.alloc (.cells #[.string s] 9)) w.heap.size (.slice (some ⟨w.heap.size, 0, none⟩) 1 1) [s] :=
  World.ownsRow_lit (base := w.heap.size) w #[.string s] 1 (Nat.le_refl _) (by decide) rfl
theorem getLast_at {l : List ByteArray} {x : ByteArray} (h : l.getLast? = some x) (h0 : 0 < l.length) : l.getD (l.length - 1) ⟨#[]⟩ = x := by
  rw [List.getLast?_eq_getElem?] at h
  rw [List.getD_eq_getElem?_getD, h]; rfl
def wLog : ByteArray := ⟨#[97, 32, 108, 111, 103]⟩
def keptV (p : Option Nat) (n : Nat) (tx : ByteArray) : Value := .agg #[lpV p, .int .i64 (n : Nat), .string tx]
set_option maxHeartbeats 6400000 in
theorem sopenX {B b g cap M f most : Nat} {w0 w : World} {D : Dk} {n : Nat} {tx : ByteArray} (h : At B w0 b g cap D w) (hok : DOk D) (al : D.dead = false) (hr : Rs D.l M f most n tx) (hM : M ≤ 1099511627776) (hmo : most ≤ 16000) :
    Calls Tryz.prog 94 #[.pointer (some ⟨b, 0, none⟩), .int .i64 (f : Nat), .int .i64 (most : Nat)] w fun e w' => ∃ D', Chg (fun k => k = b ∨ k = g) w w' ∧
      ((e = .returned (.tuple #[keptV none 0 ⟨#[]⟩, sErr wLog 2]) ∧ At B w0 b g cap D' w' ∧ GoneD D D' f ∧ Rs D'.l M f most n tx) ∨
       (∃ lb L, e = .returned (.tuple #[keptV (some lb) n tx, .nilIface]) ∧ w.heap.size ≤ lb ∧ LAt B w0 b g cap lb D' L w' ∧ Alive D D' f ∧ Kp D'.l M f most L n tx)) := by
  obtain ⟨snap, ps, hx⟩ := hr
  have hb1 : Below w.heap.size w (w.alloc (.cells #[.pointer none, .int .i64 0, .string ⟨#[]⟩] 113)) := (Below.refl _ _).alloc (Nat.le_refl _) _
  have HO := Lib.hid ((h.grow hb1).openRest hok al hx.rest hM)
  have HX := Lib.hid hx
  have HH := Lib.hid h
  have HB1 := Lib.hid hb1
  clear h hok al hx hb1
  go_enter Tryz.func94, Tryz.ntmps94
  go_wp2_with fail
  refine HO.out.mono ?_
  rintro e w1 ⟨D1, hc, ⟨rfl, hat, hg, hrs⟩ | ⟨lb, v, L, rfl, hlb, hat, hown, ha, hlc⟩⟩
  · have hk := (hc.block w.heap.size (by simp) (by have h1 := HH.out.disk.lt; have h2 := HH.out.disk.fs.lt; omega)).trans (heap_alloc_new w _)
    obtain ⟨k0, hk0⟩ : ∃ k, k = w.heap.size := ⟨_, rfl⟩
    rw [← hk0] at hk ⊢
    have HKK : Hid (IsK w1 k0 none 0 ⟨#[]⟩) := hk
    have HAT := Lib.hid hat
    have HG := Lib.hid hg
    have HRS := Lib.hid hrs
    have HC := Lib.hid hc
    have HWR := Lib.hid (swrapNo wLog 2 (by decide))
    have HK0 := Lib.hid hk0
    clear hk hat hg hrs hc HO hk0
    go_wp2_with fail
    refine (HWR.out _).mono ?_
    rintro e w2 ⟨rfl, rfl⟩
    have c0 := HKK.out.c0
    have c1 := HKK.out.c1
    have c2 := HKK.out.c2
    have f0 := HKK.out.free 0
    have f1 := HKK.out.free 1
    have f2 := HKK.out.free 2
    unfold sErr
    go_wp2_with fail
    have HF : Hid (IsK (((w2.setCell ⟨k0, 0, none⟩ (.pointer none)).setCell ⟨k0, 1, none⟩ (.int .i64 0)).setCell ⟨k0, 2, none⟩ (.string ⟨#[]⟩)) k0 none 0 ⟨#[]⟩) := HKK.out.set3 (q := none) (m := 0) (u := ⟨#[]⟩)
    have HCF : Hid (Chg (fun k => k = k0) w2 (((w2.setCell ⟨k0, 0, none⟩ (.pointer none)).setCell ⟨k0, 1, none⟩ (.int .i64 0)).setCell ⟨k0, 2, none⟩ (.string ⟨#[]⟩))) := chg_set3 _ _ _ _ _
    obtain ⟨wf, hwf⟩ : ∃ v, v = (((w2.setCell ⟨k0, 0, none⟩ (.pointer none)).setCell ⟨k0, 1, none⟩ (.int .i64 0)).setCell ⟨k0, 2, none⟩ (.string ⟨#[]⟩)) := ⟨_, rfl⟩
    rw [← hwf] at HF HCF ⊢
    clear hwf c0 c1 c2 f0 f1 f2
    have hld := HF.out.load
    refine bodyPost_ret (v := .tuple #[keptV none 0 ⟨#[]⟩, sErr wLog 2]) (by simp [results, asAddr, hld]; exact ⟨rfl, rfl⟩) rfl ?_
    have hk0w := HK0.out
    have hlt := HH.out.disk.lt
    have hltg := HH.out.disk.fs.lt
    have hne : k0 ≠ b ∧ k0 ≠ g := by omega
    have hBk : B ≤ k0 := by have := HH.out.below.size; have := HH.out.le; omega
    refine ⟨D1, ((Chg.of_below _ HB1.out).trans HC.out).over HCF.out (by omega), .inl ⟨rfl, HAT.out.overK HKK.out HCF.out hBk hne.1 hne.2, HG.out, ⟨snap, ps, HRS.out, HX.out.few, HX.out.ents, HX.out.last, HX.out.hn, HX.out.ht⟩⟩⟩
  · have hk := (hc.block w.heap.size (by simp) (by have h1 := HH.out.disk.lt; have h2 := HH.out.disk.fs.lt; omega)).trans (heap_alloc_new w _)
    obtain ⟨k0, hk0⟩ : ∃ k, k = w.heap.size := ⟨_, rfl⟩
    rw [← hk0] at hk ⊢
    have HKK : Hid (IsK w1 k0 none 0 ⟨#[]⟩) := hk
    have HAT := Lib.hid hat
    have HA := Lib.hid ha
    have HLC := Lib.hid hlc
    have HC := Lib.hid hc
    have HK0 := Lib.hid hk0
    have HLB := Lib.hid hlb
    have HV := Lib.hid (@WS.strs avoidNone _ _ _ hown.ws)
    clear hk hat ha hlc hc HO hk0 hlb hown
    go_upto_region 8 with fail
    obtain ⟨w2, hw2⟩ : ∃ v, v = w1.alloc (.cells #[.pointer (some ⟨lb, 0, none⟩), .int .i64 0, .string ⟨#[]⟩] 113) := ⟨_, rfl⟩
    obtain ⟨k1, hk1⟩ : ∃ k, k = w1.heap.size := ⟨_, rfl⟩
    have hb2 : Below w1.heap.size w1 w2 := by rw [hw2]; exact (Below.refl _ _).alloc (Nat.le_refl _) _
    have HK1 : Hid (IsK w2 k1 (some lb) 0 ⟨#[]⟩) := by unfold Hid; rw [hw2, hk1]; exact heap_alloc_new w1 _
    have HZ2 : Hid (w2.heap.size = k1 + 1) := by unfold Hid; rw [hw2, hk1]; simp
    have HAT2 := Lib.hid (HAT.out.grow hb2)
    have HKK2 := Lib.hid (HKK.out.below hb2)
    have HV2 := Lib.hid (HV.out.below hb2)
    have HB2 := Lib.hid hb2
    have HL1 : Hid (k0 < k1 ∧ lb < k1 ∧ b < k1 ∧ g < k1) := by
      unfold Hid
      have h1 := HKK.out.lt
      have h2 := HAT.out.log.lt
      have h3 := HAT.out.on.disk.lt
      have h4 := HAT.out.on.disk.fs.lt
      omega
    have HK1E := Lib.hid hk1
    rw [← hw2]
    try rw [← hk1]
    clear hw2 hk1 hb2 HAT HKK HV
    go_wp2_with (at_builtin; refine wpList_app_o (base := w2.heap.size) rfl _ _ rfl rfl rfl (ownLit w2 snap) (HV2.out.below ((Below.refl _ _).alloc (Nat.le_refl _) _)) ?e1 ?e2 ?_)
    case e1 => have := HX.out.few; simp; omega
    case e2 => simp
    intro v3 w3 ho3 hg3
    have hb3 : Below w2.heap.size w2 w3 := ((Below.refl _ _).alloc (Nat.le_refl _) _).grown hg3 (by simp) (fun k hk => ((ownLit w2 snap).block hk).1)
    obtain ⟨p3, c3, rfl⟩ := ho3.shape
    have hst := @WS.strs avoidNone _ _ _ ho3.ws
    have hrow := hst.form
    obtain ⟨p', c', e', hcl⟩ := hrow
    obtain ⟨rb, off, hp3, _⟩ := hcl 0 (by simp)
    have e1 := (Value.slice.inj e').1
    have e2 := (Value.slice.inj e').2.2
    subst e1 e2 hp3
    have hrb : w2.heap.size ≤ rb := (ho3.block (k := rb) rfl).1
    have HROW : Hid (∀ j, j < (snap :: ps).length → w3.cell? ⟨rb, off + j, none⟩ = some (.string ((snap :: ps).getD j ⟨#[]⟩))) := by
      intro j hj
      obtain ⟨rb', off', he, hcell⟩ := hcl j (by simpa using hj)
      injection he with he
      injection he with h1 h2 _
      subst h1 h2
      exact hcell
    obtain ⟨K, hK⟩ : ∃ K, K = (snap :: ps).length := ⟨_, rfl⟩
    rw [← hK]
    rw [← hK] at HROW
    have hK1 : 1 ≤ K ∧ K ≤ 17 := by have := HX.out.few; rw [hK, List.length_cons]; omega
    have HRB : Hid (rb ≠ k1) := by unfold Hid; have := HZ2.out; omega
    have HKE := Lib.hid hK
    have HB3 := Lib.hid (HB2.out.trans (hb3.mono HB2.out.size))
    have HAT3 := Lib.hid (HAT2.out.grow hb3)
    have HKK3 := Lib.hid (HKK2.out.below hb3)
    have HK3 := Lib.hid (HK1.out.below hb3)
    clear ho3 hg3 hb3 hst hcl e' hrb hK HAT2 HKK2 HK1 HV2 HB2
    go_wp2_with fail
    go_loopw [43] (fun v43 wr => ∃ (i n' : Nat) (t' : ByteArray), v43 = .int .i64 (i : Nat) ∧ i ≤ K ∧ IsK wr k1 (some lb) n' t' ∧ (0 < i → (snap :: ps).getD (i - 1) ⟨#[]⟩ = entS n' t' ∧ n' ≤ 1099511627776) ∧ IsK wr k0 none 0 ⟨#[]⟩ ∧ LAt B w0 b g cap lb D1 L wr ∧ (∀ j, j < K → wr.cell? ⟨rb, off + j, none⟩ = some (.string ((snap :: ps).getD j ⟨#[]⟩))) ∧ Below w1.heap.size w1 wr) (fun v _ => (K - intOf v).toNat)
    case atStart => exact ⟨0, 0, ⟨#[]⟩, rfl, Nat.zero_le _, HK3.out, fun h => absurd h (Nat.lt_irrefl _), HKK3.out, HAT3.out, HROW.out, HB3.out⟩
    case round =>
      clear HK3 HKK3 HAT3 HROW HB3
      obtain ⟨i, n1, t1, rfl, hi, hk1, hen, hkk, hat, hrow, hbr⟩ := hrel
      have HK := Lib.hid hk1
      have HEN := Lib.hid hen
      have HKK := Lib.hid hkk
      have HAT := Lib.hid hat
      have HROW := Lib.hid hrow
      have HB := Lib.hid hbr
      clear hk1 hen hkk hat hrow hbr
      by_cases hlt : i < K
      · have hi1 : (i : Int) < (K : Int) := by omega
        have hi0 : (0 : Int) ≤ (i : Int) := by omega
        have htc := HROW.out i hlt
        have hmem : (snap :: ps).getD i ⟨#[]⟩ ∈ snap :: ps := by
          rw [List.getD_eq_getElem?_getD, List.getElem?_eq_getElem (by rw [← HKE.out]; exact hlt)]
          exact List.getElem_mem _
        obtain ⟨m, u, hs, hm, hu⟩ := HX.out.ents _ hmem
        have HS := Lib.hid hs
        rw [hs] at htc
        have HRD := Lib.hid (sreadW m most u wr hm hu (by omega))
        clear hmem hs
        go_wp2_with fail
        refine HRD.out.mono ?_
        rintro e w5 ⟨rfl, hb5⟩
        have HK5 := Lib.hid (HK.out.below hb5)
        have HKK5 := Lib.hid (HKK.out.below hb5)
        have HAT5 := Lib.hid (HAT.out.grow hb5)
        have HB5 := Lib.hid (HB.out.trans (hb5.mono HB.out.size))
        have HROW5 : Hid (∀ j, j < K → w5.cell? ⟨rb, off + j, none⟩ = some (.string ((snap :: ps).getD j ⟨#[]⟩))) := fun j hj => (hb5.cell (block_lt_of_cell (HROW.out j hj))).trans (HROW.out j hj)
        clear hb5 htc HRD HK HKK HAT HB HROW
        have c1 := HK5.out.c1
        have c2 := HK5.out.c2
        have f1 := HK5.out.free 1
        have f2 := HK5.out.free 2
        have HKF : Hid (IsK ((w5.setCell ⟨k1, 1, none⟩ (.int .i64 (m : Nat))).setCell ⟨k1, 2, none⟩ (.string u)) k1 (some lb) m u) := HK5.out.set
        have HCF : Hid (Chg (fun k => k = k1) w5 ((w5.setCell ⟨k1, 1, none⟩ (.int .i64 (m : Nat))).setCell ⟨k1, 2, none⟩ (.string u))) := chg_set2 _ _ _ _
        go_wp2_with fail
        have hL := HL1.out
        refine ⟨⟨i + 1, m, u, rfl, by omega, HKF.out, fun _ => ⟨HS.out, hm⟩, HKK5.out.keep HCF.out (by omega), HAT5.out.overK HK5.out HCF.out ?_ (by omega) (by omega) (by omega), fun j hj => ?_, HB5.out.trans (HCF.out.belowK HB5.out.size (by have := HK1E.out; omega))⟩, by simp only [intOf]; omega⟩
        · have := HH.out.below.size; have := HH.out.le; have := HK0.out; omega
        · refine (World.cell?_of_block (a := ⟨rb, off + j, none⟩) (HCF.out.block rb (block_lt_of_cell (HROW5.out j hj)) HRB.out)).trans (HROW5.out j hj)
      · have hi1 : ¬ (i : Int) < (K : Int) := by omega
        obtain rfl : i = K := by omega
        obtain ⟨he, hn1⟩ := HEN.out (by omega)
        have hla := getLast_at HX.out.last (by simp)
        rw [← HKE.out, he] at hla
        obtain ⟨hnn, htt⟩ := entS_inj (by omega) (by have := HX.out.hn; omega) hla
        subst hnn htt
        clear hlt he hn1 hla HEN
        have c0 : wr.cell? ⟨k1, 0, none⟩ = some (.pointer (some ⟨lb, 0, none⟩)) := HK.out.c0
        have c1 := HK.out.c1
        have c2 := HK.out.c2
        have d0 : wr.cell? ⟨k0, 0, none⟩ = some (.pointer none) := HKK.out.c0
        have d1 := HKK.out.c1
        have d2 := HKK.out.c2
        have f0 := HKK.out.free 0
        have f1 := HKK.out.free 1
        have f2 := HKK.out.free 2
        go_wp2_with fail
        have HF : Hid (IsK (((wr.setCell ⟨k0, 0, none⟩ (.pointer (some ⟨lb, 0, none⟩))).setCell ⟨k0, 1, none⟩ (.int .i64 (n1 : Nat))).setCell ⟨k0, 2, none⟩ (.string t1)) k0 (some lb) n1 t1) := HKK.out.set3 (q := some lb) (m := n1) (u := t1)
        have HCF : Hid (Chg (fun k => k = k0) wr (((wr.setCell ⟨k0, 0, none⟩ (.pointer (some ⟨lb, 0, none⟩))).setCell ⟨k0, 1, none⟩ (.int .i64 (n1 : Nat))).setCell ⟨k0, 2, none⟩ (.string t1))) := chg_set3 _ _ _ _ _
        obtain ⟨wf, hwf⟩ : ∃ v, v = (((wr.setCell ⟨k0, 0, none⟩ (.pointer (some ⟨lb, 0, none⟩))).setCell ⟨k0, 1, none⟩ (.int .i64 (n1 : Nat))).setCell ⟨k0, 2, none⟩ (.string t1)) := ⟨_, rfl⟩
        rw [← hwf] at HF HCF ⊢
        clear hwf c0 c1 c2 d0 d1 d2 f0 f1 f2
        have hld := HF.out.load
        refine bodyPost_ret (v := .tuple #[keptV (some lb) n1 t1, .nilIface]) (by simp [results, asAddr, hld]; rfl) rfl ?_
        have hL := HL1.out
        have hk0w := HK0.out
        have hlt := HH.out.disk.lt
        have hltg := HH.out.disk.fs.lt
        have hBk : B ≤ k0 := by have := HH.out.below.size; have := HH.out.le; omega
        have hlb := HLB.out
        have hlb2 : w.heap.size ≤ lb := by simp at hlb; omega
        have hlbk : k0 ≠ lb := by simp at hlb; omega
        have hch := (((Chg.of_below (fun k => k = b ∨ k = g) HB1.out).trans HC.out).trans (Chg.of_below _ HB.out)).over HCF.out (by omega)
        have hat := HAT.out.overK HKK.out HCF.out hBk (by omega) (by omega) hlbk
        have hkp : Kp D1.l M f most L n1 t1 := ⟨snap, ps, HLC.out, HX.out.few, HX.out.ents, HX.out.last, HX.out.hn, HX.out.ht⟩
        first
          | exact ⟨D1, hch, .inr ⟨lb, L, rfl, hlb2, hat, HA.out, hkp⟩⟩
          | exact ⟨hch, D1, .inr ⟨lb, L, rfl, hlb2, hat, HA.out, hkp⟩⟩
          | exact ⟨hch, D1, .inr ⟨lb, rfl, hlb2, L, hat, HA.out, hkp⟩⟩
end Go.Proofs.YtilpbjcbffbjeaaGreatDoor
namespace Go.Proofs.YtilpbjcbffbjeaaGreatDoor
set_option linter.unusedVariables false
set_option maxRecDepth 100000
open Go.RowKit
set_option linter.unusedSectionVars false
variable [Avoid]
/-- Another disk's files: as many; those that no log of a store has are as they were. -/
structure LenO (ten : Nat) (l l' : List Fl) : Prop where
  len : l'.length = l.length
  oth : ∀ j, (∀ i, i ≤ ten → j ≠ fiS i ∧ j ≠ fiS i + 1) → l'.getD j Fl.zero = l.getD j Fl.zero
theorem LenO.refl (ten : Nat) (l : List Fl) : LenO ten l l := ⟨rfl, fun _ _ => rfl⟩
theorem LenO.trans {ten : Nat} {l l1 l2 : List Fl} (h : LenO ten l l1) (k : LenO ten l1 l2) : LenO ten l l2 := ⟨k.len.trans h.len, fun j hj => (k.oth j hj).trans (h.oth j hj)⟩
theorem LenO.alive {ten i : Nat} {l : List Fl} {D D' : Dk} (h : LenO ten l D.l) (ha : Alive D D' (fiS i)) (hi : i ≤ ten) : LenO ten l D'.l :=
  ⟨ha.len.trans h.len, fun j hj => (ha.other j (hj i hi).1 (hj i hi).2).trans (h.oth j hj)⟩
theorem slogW (t : Nat) (w : World) (ht : t ≤ 8) : Calls Tryz.prog 51 #[.int .i64 (t : Nat)] w fun e w' => e = .returned (.int .i64 (fiS (t + 1) : Nat)) ∧ w' = w := by
  have e1 : ((fiS (t + 1) : Nat) : Int) = 2 + 3 * (t : Int) := by unfold fiS; omega
  rw [e1]
  have h1 : (t : Int) ≤ 8 := by omega
  have h0 : (0 : Int) ≤ (t : Int) := by omega
  go_enter Tryz.func51, Tryz.ntmps51
  go_wp2
  go_ret
  exact ⟨rfl, rfl⟩
theorem sfilesW (t : Nat) (w : World) (ht : t ≤ 8) : Calls Tryz.prog 47 #[.int .i64 (t : Nat)] w fun e w' => e = .returned (.int .i64 ((2 + 3 * t : Nat) : Int)) ∧ w' = w := by
  have e1 : ((2 + 3 * t : Nat) : Int) = 2 + 3 * (t : Int) := by omega
  rw [e1]
  have h1 : (t : Int) ≤ 8 := by omega
  have h0 : (0 : Int) ≤ (t : Int) := by omega
  go_enter Tryz.func47, Tryz.ntmps47
  go_wp2
  go_ret
  exact ⟨rfl, rfl⟩
/-- A store that is being opened: the tenants below k are. -/
structure StP (B : Nat) (w0 : World) (b g cap sb ten k : Nat) (D : Dk) (M : Nat) (lb : Nat → Nat) (L : Nat → Lg) (n0 : Nat → Nat) (tx0 : Nat → ByteArray) (w : World) : Prop where
  on : At B w0 b g cap D w
  st : IsSt w sb ten (fun i => if 1 ≤ i ∧ i ≤ k then some (lb i) else none) (fun i => if 1 ≤ i ∧ i ≤ k then n0 i else 0) (fun i => if 1 ≤ i ∧ i ≤ k then tx0 i else ⟨#[]⟩) false
  sB : B ≤ sb
  lg : ∀ i, 1 ≤ i → i ≤ k → IsLog w (lb i) b (L i) ∧ B ≤ lb i ∧ sb < lb i
  inj : ∀ i j, 1 ≤ i → i < j → j ≤ k → lb i < lb j
  ok : DOk D
  al : D.dead = false
  ar : D.armed = 0
  few : FewS D
  kp : ∀ i, 1 ≤ i → i ≤ k → Kp D.l M (fiS i) (moS i) (L i) (n0 i) (tx0 i)
  rs : ∀ i, i ≤ ten → (i = 0 ∨ k < i) → Rs D.l M (fiS i) (moS i) (n0 i) (tx0 i)
-- LEMMAS
theorem upd_step {α : Type} (f : Nat → α) (z x : α) (k : Nat) : upd (fun i => if 1 ≤ i ∧ i ≤ k then f i else z) (k + 1) x = fun i => if 1 ≤ i ∧ i ≤ k + 1 then upd f (k + 1) x i else z := by
  funext i
  unfold upd
  by_cases h : i = k + 1
  · rw [if_pos h, if_pos (by omega), if_pos h]
  · rw [if_neg h]
    show (if 1 ≤ i ∧ i ≤ k then f i else z) = _
    by_cases h2 : 1 ≤ i ∧ i ≤ k
    · rw [if_pos h2, if_pos (by omega)]; show f i = if i = k + 1 then x else f i; rw [if_neg h]
    · rw [if_neg h2, if_neg (by omega)]
theorem upd_id {α : Type} (f : Nat → α) (k : Nat) : upd f k (f k) = f := by
  funext i
  unfold upd
  by_cases h : i = k
  · rw [if_pos h, h]
  · rw [if_neg h]
theorem Kp.fewS {D D' : Dk} {M f most n : Nat} {L : Lg} {tx : ByteArray} (h : Kp D'.l M f most L n tx) (hf : FewS D) (ha : Alive D D' f) : FewS D' := by
  obtain ⟨snap, ps, h⟩ := h
  exact hf.alive ha h.lc (by have := h.few; omega)
section
variable {P : Program} {Q : Exit → Act → World → Prop} {md : Region.Mode} {S : World → Prop} {n : Nat}
/-- A store, below n. -/
theorem storeU (i : Nat) {l : List Oper} {o : Oper} {r : List Oper} {fuel : Nat} {listed : Array Bool} {a : Act} {w : World} {w' : World} (hi : l.drop i = o :: r) (hin : decide (i < n) = true) (hw : Region.wanted o (yielded l.toArray a.tmps) = true)
    (hrun : (execOp a.eval o).run P w = .ok .skip w')
    (h : S w' ∧ wpAnyU P md l.toArray n Q S fuel (listed.setIfInBounds i true) (a.put o.dst undef) w') :
    if i < n then wpOp P l.toArray Q i (fun a' w' => S w' ∧ wpAnyU P md l.toArray n Q S fuel (listed.setIfInBounds i true) a' w') a w else wpOp P l.toArray Q i (wpAny P md l.toArray Q fuel (listed.setIfInBounds i true)) a w := by
  refine someU i hi hin ?_
  rw [if_pos hw]
  unfold Oper.wp
  rw [hrun]
  exact h
end
section
variable {B b g cap sb ten k M : Nat} {w0 w w' : World} {D : Dk} {lb : Nat → Nat} {L : Nat → Lg} {n0 : Nat → Nat} {tx0 : Nat → ByteArray}
theorem StP.grow (h : StP B w0 b g cap sb ten k D M lb L n0 tx0 w) (hb : Below w.heap.size w w') : StP B w0 b g cap sb ten k D M lb L n0 tx0 w' :=
  ⟨h.on.grow hb, h.st.below hb, h.sB, fun i h1 h2 => ⟨(h.lg i h1 h2).1.below hb, (h.lg i h1 h2).2⟩, h.inj, h.ok, h.al, h.ar, h.few, h.kp, h.rs⟩
/-- One tenant more is open. -/
theorem StP.next (h : StP B w0 b g cap sb ten k D M lb L n0 tx0 w) (hk : k < ten) (h8 : ten ≤ 8) {D' : Dk} {lb' : Nat} {L' : Lg} {w2 : World} (hat : LAt B w0 b g cap lb' D' L' w2) (hc : Chg (fun k => k = b ∨ k = g) w w2) (hlb : w.heap.size ≤ lb')
    (ha : Alive D D' (fiS (k + 1))) (hkp : Kp D'.l M (fiS (k + 1)) (moS (k + 1)) L' (n0 (k + 1)) (tx0 (k + 1))) :
    StP B w0 b g cap sb ten (k + 1) D' M (upd lb (k + 1) lb') (upd L (k + 1) L') n0 tx0 (((w2.setCell ⟨sb, 4 + k * 3, none⟩ (lpV (some lb'))).setCell ⟨sb, 4 + k * 3 + 1, none⟩ (.int .i64 (n0 (k + 1) : Nat))).setCell ⟨sb, 4 + k * 3 + 2, none⟩ (.string (tx0 (k + 1)))) := by
  have hne0 := h.st.ne h.on.disk
  have hst2 := h.st.keep hc (by omega)
  have hne := hst2.ne hat.on.disk
  have hsblt := h.st.lt
  have hcs : Chg (fun k => k = sb) w2 (((w2.setCell ⟨sb, 4 + k * 3, none⟩ (lpV (some lb'))).setCell ⟨sb, 4 + k * 3 + 1, none⟩ (.int .i64 (n0 (k + 1) : Nat))).setCell ⟨sb, 4 + k * 3 + 2, none⟩ (.string (tx0 (k + 1)))) :=
    ((Chg.setCell (fun k => k = sb) w2 rfl _).trans (Chg.setCell (fun k => k = sb) _ rfl _)).trans (Chg.setCell (fun k => k = sb) _ rfl _)
  have hBw : B ≤ w2.heap.size := Nat.le_trans hat.on.le hat.on.below.size
  have hst3 := hst2.gsetK (t := k) (by omega) (some lb') (n0 (k + 1)) (tx0 (k + 1))
  rw [upd_step, upd_step, upd_step, upd_id, upd_id] at hst3
  refine ⟨⟨hat.on.disk.keep hcs (fun e => hne.1 e.symm) (fun e => hne.2 e.symm) hst2.muts, hat.on.below.trans (hcs.below hBw (fun j hj e => by have := h.sB; omega)), hat.on.bB, hat.on.gB, hat.on.le⟩, ?_, h.sB, ?_, ?_, ha.ok, ha.al, ha.ar h.ar, hkp.fewS h.few ha, ?_, ?_⟩
  · rw [show (fun i => if 1 ≤ i ∧ i ≤ k + 1 then some (upd lb (k + 1) lb' i) else none) = fun i => if 1 ≤ i ∧ i ≤ k + 1 then upd (fun i => some (lb i)) (k + 1) (some lb') i else none by
      funext i
      unfold upd
      by_cases e : i = k + 1
      · rw [if_pos e, if_pos e]
      · rw [if_neg e, if_neg e]]
    exact hst3
  · intro i i1 i2
    by_cases e : i = k + 1
    · subst e
      rw [upd_same, upd_same]
      exact ⟨hat.log.keep hcs (fun e => by omega), hat.lB, by omega⟩
    · rw [upd_other _ _ e, upd_other _ _ e]
      obtain ⟨q1, q2, q3⟩ := h.lg i i1 (by omega)
      have h9 := q1.keep hc (by have := q1.ne h.on.disk; omega)
      exact ⟨h9.keep hcs (fun e => by omega), q2, q3⟩
  · intro i j i1 ij j1
    by_cases e : j = k + 1
    · subst e
      rw [upd_same, upd_other _ _ (by omega)]
      have := (h.lg i i1 (by omega)).1.lt
      omega
    · rw [upd_other _ _ e, upd_other _ _ (by omega)]
      exact h.inj i j i1 ij (by omega)
  · intro i i1 i2
    by_cases e : i = k + 1
    · subst e
      rw [upd_same]
      exact hkp
    · rw [upd_other _ _ e]
      obtain ⟨f1, f2, f3⟩ := fiS_far e
      exact (h.kp i i1 (by omega)).alive ha f1 f2 f3
  · intro i i1 i2
    have e : i ≠ k + 1 := by omega
    obtain ⟨f1, f2, f3⟩ := fiS_far e
    exact (h.rs i i1 (by omega)).alive ha f1 f2 f3
end
section
variable {B b g cap sb ten M : Nat} {w0 w w' : World} {D : Dk} {lb : Nat → Nat} {L : Nat → Lg} {n0 : Nat → Nat} {tx0 : Nat → ByteArray}
theorem StP.full (h : StP B w0 b g cap sb ten ten D M lb L n0 tx0 w) (h8 : ten ≤ 8) (hz : ∀ i, ten < i → n0 i = 0 ∧ tx0 i = ⟨#[]⟩) {D' : Dk} {lb' : Nat} {L' : Lg} {w2 : World} (hat : LAt B w0 b g cap lb' D' L' w2) (hc : Chg (fun k => k = b ∨ k = g) w w2) (hlb : w.heap.size ≤ lb')
    (ha : Alive D D' 0) (hkp : Kp D'.l M 0 0 L' (n0 0) (tx0 0)) :
    StA B w0 b g cap sb ten D' M (upd lb 0 lb') (upd L 0 L') n0 tx0 (((w2.setCell ⟨sb, 1, none⟩ (lpV (some lb'))).setCell ⟨sb, 2, none⟩ (.int .i64 (n0 0 : Nat))).setCell ⟨sb, 3, none⟩ (.string (tx0 0))) := by
  have hne0 := h.st.ne h.on.disk
  have hst2 := h.st.keep hc (by omega)
  have hne := hst2.ne hat.on.disk
  have hsblt := h.st.lt
  have hcs : Chg (fun k => k = sb) w2 (((w2.setCell ⟨sb, 1, none⟩ (lpV (some lb'))).setCell ⟨sb, 2, none⟩ (.int .i64 (n0 0 : Nat))).setCell ⟨sb, 3, none⟩ (.string (tx0 0))) :=
    ((Chg.setCell (fun k => k = sb) w2 rfl _).trans (Chg.setCell (fun k => k = sb) _ rfl _)).trans (Chg.setCell (fun k => k = sb) _ rfl _)
  have hBw : B ≤ w2.heap.size := Nat.le_trans hat.on.le hat.on.below.size
  have hst3 := hst2.setK (i := 0) (by omega) (some lb') (n0 0) (tx0 0)
  refine ⟨⟨hat.on.disk.keep hcs (fun e => hne.1 e.symm) (fun e => hne.2 e.symm) hst2.muts, hat.on.below.trans (hcs.below hBw (fun j hj e => by have := h.sB; omega)), hat.on.bB, hat.on.gB, hat.on.le⟩, ?_, h.sB, ?_, ?_, h8, ha.ok, ha.al, hkp.fewS h.few ha, ?_⟩
  · rw [show (upd (fun i => if 1 ≤ i ∧ i ≤ ten then some (lb i) else none) 0 (some lb')) = lpS ten (upd lb 0 lb') by
        funext i
        unfold upd lpS
        by_cases e : i = 0
        · subst e; rw [if_pos rfl, if_pos (Nat.zero_le _)]; rfl
        · rw [if_neg e]
          show (if 1 ≤ i ∧ i ≤ ten then some (lb i) else none) = if i ≤ ten then some (if i = 0 then lb' else lb i) else none
          rw [if_neg e]
          by_cases e2 : i ≤ ten
          · rw [if_pos (by omega), if_pos e2]
          · rw [if_neg (by omega), if_neg e2],
      show (upd (fun i => if 1 ≤ i ∧ i ≤ ten then n0 i else 0) 0 (n0 0)) = n0 by
        funext i
        unfold upd
        by_cases e : i = 0
        · subst e; rw [if_pos rfl]
        · rw [if_neg e]
          show (if 1 ≤ i ∧ i ≤ ten then n0 i else 0) = n0 i
          by_cases e2 : i ≤ ten
          · rw [if_pos (by omega)]
          · rw [if_neg (by omega), (hz i (by omega)).1],
      show (upd (fun i => if 1 ≤ i ∧ i ≤ ten then tx0 i else (⟨#[]⟩ : ByteArray)) 0 (tx0 0)) = tx0 by
        funext i
        unfold upd
        by_cases e : i = 0
        · subst e; rw [if_pos rfl]
        · rw [if_neg e]
          show (if 1 ≤ i ∧ i ≤ ten then tx0 i else (⟨#[]⟩ : ByteArray)) = tx0 i
          by_cases e2 : i ≤ ten
          · rw [if_pos (by omega)]
          · rw [if_neg (by omega), (hz i (by omega)).2]] at hst3
    exact hst3
  · intro i i2
    by_cases e : i = 0
    · subst e
      rw [upd_same, upd_same]
      exact ⟨hat.log.keep hcs (fun e => by omega), hat.lB⟩
    · rw [upd_other _ _ e, upd_other _ _ e]
      obtain ⟨q1, q2, q3⟩ := h.lg i (by omega) i2
      have h9 := q1.keep hc (by have := q1.ne h.on.disk; omega)
      exact ⟨h9.keep hcs (fun e => by omega), q2⟩
  · intro i j i1 j1 ij
    by_cases e : i = 0
    · subst e
      rw [upd_same, upd_other _ _ (Ne.symm ij)]
      have := (h.lg j (by omega) j1).1.lt
      omega
    · rw [upd_other _ _ e]
      by_cases e2 : j = 0
      · subst e2
        rw [upd_same]
        have := (h.lg i (by omega) i1).1.lt
        omega
      · rw [upd_other _ _ e2]
        rcases Nat.lt_or_gt_of_ne ij with q | q
        · have := h.inj i j (by omega) q j1; omega
        · have := h.inj j i (by omega) q i1; omega
  · intro i i2
    by_cases e : i = 0
    · subst e
      rw [upd_same]
      exact hkp
    · rw [upd_other _ _ e]
      obtain ⟨f1, f2, f3⟩ := fiS_far e
      exact (h.kp i (by omega) i2).alive ha f1 f2 f3
end
set_option maxHeartbeats 6400000 in
theorem sopensU {B b g cap sb ten M : Nat} {w0 w : World} {D : Dk} {n0 : Nat → Nat} {tx0 : Nat → ByteArray} (h : At B w0 b g cap D w) (hst : IsSt w sb ten (fun _ => none) (fun _ => 0) (fun _ => ⟨#[]⟩) false) (hsB : B ≤ sb) (h1 : 1 ≤ ten) (h8 : ten ≤ 8)
    (hok : DOk D) (al : D.dead = false) (ar : D.armed = 0) (few : FewS D) (hM : M < 1099511627776) (hrs : ∀ i, i ≤ ten → Rs D.l M (fiS i) (moS i) (n0 i) (tx0 i)) (he : n0 0 < 1099511627776) (hz : ∀ i, ten < i → n0 i = 0 ∧ tx0 i = ⟨#[]⟩) :
    Calls Tryz.prog 65 #[.pointer (some ⟨sb, 0, none⟩), .pointer (some ⟨b, 0, none⟩)] w fun e w' => ∃ D' lb L, e = .returned .nilIface ∧ StA B w0 b g cap sb ten D' (M + 1) lb L (upd n0 0 (n0 0 + 1)) (upd tx0 0 ⟨#[]⟩) w' ∧ D'.armed = 0 ∧ LenO ten D.l D'.l := by
  have c0 := hst.c0
  have HP0 : Hid (StP B w0 b g cap sb ten 0 D M (fun _ => 0) (fun _ => ⟨0, 0, 0, 0, false⟩) n0 tx0 w) := by
    refine ⟨h, ?_, hsB, fun i a b => by omega, fun i j a b c => by omega, hok, al, ar, few, fun i a b => by omega, fun i a _ => hrs i a⟩
    rw [show (fun i => if 1 ≤ i ∧ i ≤ 0 then some 0 else none) = fun _ => (none : Option Nat) by funext i; rw [if_neg (by omega)], show (fun i => if 1 ≤ i ∧ i ≤ 0 then n0 i else 0) = fun _ => 0 by funext i; rw [if_neg (by omega)], show (fun i => if 1 ≤ i ∧ i ≤ 0 then tx0 i else (⟨#[]⟩ : ByteArray)) = fun _ => ⟨#[]⟩ by funext i; rw [if_neg (by omega)]]
    exact hst
  have HHE := Lib.hid he
  have HZZ := Lib.hid hz
  clear h hst hsB hok al ar few hrs he hz
  go_enter Tryz.func65, Tryz.ntmps65
  go_wp2_with fail
  clear c0
  go_loopw [4, 10] (fun v4 v10 wr => ∃ (k : Nat) (D1 : Dk) (lb : Nat → Nat) (L : Nat → Lg), v10 = .int .i64 (k : Nat) ∧ v4 = .nilIface ∧ k ≤ ten ∧ StP B w0 b g cap sb ten k D1 M lb L n0 tx0 wr ∧ LenO ten D.l D1.l) (fun _ v _ => (ten - intOf v).toNat)
  case atStart => exact ⟨0, D, _, _, rfl, rfl, Nat.zero_le _, HP0.out, LenO.refl _ _⟩
  case round =>
    clear HP0
    obtain ⟨k, D1, lb, L, rfl, rfl, hk, hsp, hln⟩ := hrel
    have HS := Lib.hid hsp
    have HLN := Lib.hid hln
    clear hsp hln
    by_cases hlt : k < ten
    · have hi1 : (k : Int) < (ten : Int) := by omega
      have hi8 : (k : Int) < 8 := by omega
      have hi0 : (0 : Int) ≤ (k : Int) := by omega
      go_wp2_with fail
      refine wp_region_U 13 (fun _ => True) (by kernel_rfl) ?_
      change wpAnyU _ _ _ _ _ _ 14 (Array.replicate 14 false) _ _
      obtain ⟨wd, hwd⟩ : ∃ x, x = wr.drew := ⟨_, rfl⟩
      rw [← hwd]
      have hbd : Below wr.heap.size wr wd := by rw [hwd]; exact (Below.refl _ _).drew
      replace HS := Lib.hid (HS.out.grow hbd)
      clear hwd hbd
      refine takeU 0 (v := ?_) rfl (by kernel_rfl) (by kernel_rfl) (fun _ _ _ h => h) rfl (fun u hu => ?_) trivial ?_
      rotate_left
      · skip; go_simp <;> with_reducible rfl
      simp only [Act.put, List.setIfInBounds_toArray, List.set_cons_zero, List.set_cons_succ]
      refine takeU 1 (v := ?_) rfl (by kernel_rfl) (by kernel_rfl) (fun _ _ _ h => h) rfl (fun u hu => ?_) trivial ?_
      rotate_left
      · skip; go_simp <;> with_reducible rfl
      simp only [Act.put, List.setIfInBounds_toArray, List.set_cons_zero, List.set_cons_succ]
      refine takeU 2 (v := ?_) rfl (by kernel_rfl) (by kernel_rfl) (fun _ _ _ h => h) rfl (fun u hu => ?_) trivial ?_
      rotate_left
      · skip; go_simp <;> with_reducible rfl
      simp only [Act.put, List.setIfInBounds_toArray, List.set_cons_zero, List.set_cons_succ]
      refine takeU 3 (v := ?_) rfl (by kernel_rfl) (by kernel_rfl) (fun _ _ _ h => h) rfl (fun u hu => ?_) trivial ?_
      rotate_left
      · skip; go_simp <;> with_reducible rfl
      simp only [Act.put, List.setIfInBounds_toArray, List.set_cons_zero, List.set_cons_succ]
      refine takeU 9 (v := ?_) rfl (by kernel_rfl) (by kernel_rfl) (fun _ _ _ h => h) rfl (fun u hu => ?_) trivial ?_
      rotate_left
      · skip; go_simp <;> with_reducible rfl
      simp only [Act.put, List.setIfInBounds_toArray, List.set_cons_zero, List.set_cons_succ]
      refine takeU 10 (v := ?_) rfl (by kernel_rfl) (by kernel_rfl) (fun _ _ _ h => h) rfl (fun u hu => ?_) trivial ?_
      rotate_left
      · skip; go_simp <;> with_reducible rfl
      simp only [Act.put, List.setIfInBounds_toArray, List.set_cons_zero, List.set_cons_succ]
      have HLG := Lib.hid (slogW k wd (by omega))
      obtain ⟨z, hz⟩ : ∃ z, z = fiS (k + 1) := ⟨_, rfl⟩
      have HZ := Lib.hid hz
      rw [← hz] at HLG
      clear hz
      refine oneU 4 (by kernel_rfl) ?_
      refine callU 4 rfl (by kernel_rfl) rfl 51 _ _ rfl #[.int .i64 (k : Nat)] (by simp [Act.eval]) (enters_of Tryz.func51 (by kernel_rfl) rfl) (fun v w' => v = .int .i64 (z : Nat) ∧ w' = wd) (HLG.out.mono fun e w' ⟨h1, h2⟩ => ⟨_, h1, rfl, h2⟩) ?_
      rintro v w5 ⟨rfl, rfl⟩
      refine ⟨trivial, ?_⟩
      simp only [Act.put, List.setIfInBounds_toArray, List.set_cons_zero, List.set_cons_succ]
      have HOP := Lib.hid (sopenX HS.out.on HS.out.ok HS.out.al (HS.out.rs (k + 1) (by omega) (.inr (by omega))) (by omega) (by unfold moS; split <;> omega))
      rw [← HZ.out, show moS (k + 1) = 16000 by unfold moS; rw [if_neg (by omega)]] at HOP
      refine oneU 5 (by kernel_rfl) ?_
      refine callU 5 rfl (by kernel_rfl) rfl 94 _ _ rfl #[.pointer (some ⟨b, 0, none⟩), .int .i64 (z : Nat), .int .i64 16000] (by simp [Act.eval]) (enters_of Tryz.func94 (by kernel_rfl) rfl) (fun v w' => ∃ lb' L' D', v = .tuple #[.agg #[.pointer (some ⟨lb', 0, none⟩), .int .i64 (n0 (k + 1) : Nat), .string (tx0 (k + 1))], .nilIface] ∧ Hid (w5.heap.size ≤ lb' ∧ LAt B w0 b g cap lb' D' L' w' ∧ Chg (fun k => k = b ∨ k = g) w5 w' ∧ Alive D1 D' z ∧ Kp D'.l M z 16000 L' (n0 (k + 1)) (tx0 (k + 1)))) (HOP.out.mono fun e w' ⟨D', hc, hh⟩ => by
          rcases hh with ⟨_, _, hg, _⟩ | ⟨lb', L', q1, q2, q3, q4, q5⟩
          · exact absurd HS.out.ar hg.ar
          · exact ⟨_, q1, lb', L', D', rfl, q2, q3, hc, q4, q5⟩) ?_
      rintro v w6 ⟨lb', L', D', rfl, hK⟩
      refine ⟨trivial, ?_⟩
      simp only [Act.put, List.setIfInBounds_toArray, List.set_cons_zero, List.set_cons_succ]
      obtain ⟨q2, q3, q4, q5, q6⟩ := hK.out
      have HNX := Lib.hid (HS.out.next hlt h8 q3 q4 q2 (by rw [← HZ.out]; exact q5) (by rw [← HZ.out, show moS (k + 1) = 16000 by unfold moS; rw [if_neg (by omega)]]; exact q6))
      have hst6 := HS.out.st.keep q4 (by have := HS.out.st.ne HS.out.on.disk; omega)
      have g0 := hst6.gp (t := k) (by omega)
      have g1 := hst6.gn (t := k) (by omega)
      have g2 := hst6.gt (t := k) (by omega)
      have f0 := hst6.free (4 + k * 3)
      have f1 := hst6.free (4 + k * 3 + 1)
      have f2 := hst6.free (4 + k * 3 + 2)
      have HLN6 : Hid (LenO ten D.l D'.l) := HLN.out.alive (by have h := q5; rw [HZ.out] at h; exact h) (by omega)
      obtain ⟨y, hy⟩ : ∃ y, y = n0 (k + 1) := ⟨_, rfl⟩
      obtain ⟨x, hx⟩ : ∃ x, x = tx0 (k + 1) := ⟨_, rfl⟩
      rw [← hy, ← hx] at HNX ⊢
      clear q2 q3 q4 q5 q6 hst6 hK hy hx
      refine takeU 6 (v := ?_) rfl (by kernel_rfl) (by kernel_rfl) (fun _ _ _ h => h) rfl (fun u hu => ?_) trivial ?_
      rotate_left
      · skip; go_simp <;> with_reducible rfl
      simp only [Act.put, List.setIfInBounds_toArray, List.set_cons_zero, List.set_cons_succ]
      refine takeU 7 (v := ?_) rfl (by kernel_rfl) (by kernel_rfl) (fun _ _ _ h => h) rfl (fun u hu => ?_) trivial ?_
      rotate_left
      · skip; go_simp <;> with_reducible rfl
      simp only [Act.put, List.setIfInBounds_toArray, List.set_cons_zero, List.set_cons_succ]
      refine takeU 8 (v := ?_) rfl (by kernel_rfl) (by kernel_rfl) (fun _ _ _ h => h) rfl (fun u hu => ?_) trivial ?_
      rotate_left
      · skip; go_simp <;> with_reducible rfl
      simp only [Act.put, List.setIfInBounds_toArray, List.set_cons_zero, List.set_cons_succ]
      refine takeU 11 (v := ?_) rfl (by kernel_rfl) (by kernel_rfl) (fun _ _ _ h => h) rfl (fun u hu => ?_) trivial ?_
      rotate_left
      · skip; go_simp <;> with_reducible rfl
      simp only [Act.put, List.setIfInBounds_toArray, List.set_cons_zero, List.set_cons_succ]
      refine oneU 12 (by kernel_rfl) ?_
      refine storeU 12 (w' := ((w6.setCell ⟨sb, 4 + k * 3, none⟩ (.pointer (some ⟨lb', 0, none⟩))).setCell ⟨sb, 4 + k * 3 + 1, none⟩ (.int .i64 (y : Nat))).setCell ⟨sb, 4 + k * 3 + 2, none⟩ (.string x)) rfl (by kernel_rfl) (by kernel_rfl) ?_ ⟨trivial, ?_⟩
      · go_simp
      simp only [Act.put]
      refine oneU 13 (by kernel_rfl) ?_
      refine endU (v := ?_) 13 rfl (by kernel_rfl) (by kernel_rfl) rfl ?_ ?_
      rotate_left
      · go_simp <;> with_reducible rfl
      simp only [Act.put, List.setIfInBounds_toArray, List.set_cons_zero, List.set_cons_succ]
      clear g0 g1 g2 f0 f1 f2 HOP HLG
      go_wp2_with fail
      exact ⟨⟨k + 1, D', upd lb (k + 1) lb', upd L (k + 1) L', rfl, rfl, by omega, HNX.out, HLN6.out⟩, by simp only [intOf]; omega⟩
    · have hi1 : ¬ (k : Int) < (ten : Int) := by omega
      obtain rfl : k = ten := by omega
      have HOP := Lib.hid (sopenX HS.out.on HS.out.ok HS.out.al (HS.out.rs 0 (Nat.zero_le _) (.inl rfl)) (by omega) (by unfold moS; rw [if_pos rfl]; exact Nat.zero_le _))
      rw [show fiS 0 = 0 from rfl, show moS 0 = 0 from rfl] at HOP
      clear hlt
      go_wp2_with fail
      refine HOP.out.mono ?_
      rintro e w2 ⟨D2, hc2, ⟨_, _, hg, _⟩ | ⟨lb', L', rfl, hlb, hat, ha, hkp⟩⟩
      · exact absurd HS.out.ar hg.ar
      have HNX := Lib.hid (HS.out.full h8 HZZ.out hat hc2 hlb ha hkp)
      have hst6 := HS.out.st.keep hc2 (by have := HS.out.st.ne HS.out.on.disk; omega)
      have g0 := hst6.cp (i := 0) (by omega)
      have g1 := hst6.cn (i := 0) (by omega)
      have g2 := hst6.ct (i := 0) (by omega)
      have f0 := hst6.free 1
      have f1 := hst6.free 2
      have f2 := hst6.free 3
      have HLN2 : Hid (LenO _ D.l D2.l) := HLN.out.alive (i := 0) ha (Nat.zero_le _)
      have HAR2 : Hid (D2.armed = 0) := ha.ar HS.out.ar
      obtain ⟨y, hy⟩ : ∃ y, y = n0 0 := ⟨_, rfl⟩
      obtain ⟨x, hx⟩ : ∃ x, x = tx0 0 := ⟨_, rfl⟩
      have HY := Lib.hid hy
      rw [← hy, ← hx] at HNX ⊢
      have hyb : y < 1099511627776 := by rw [hy]; exact HHE.out
      obtain ⟨yi, hyi⟩ : ∃ yi : Int, yi = (y : Nat) := ⟨_, rfl⟩
      have HYI := Lib.hid hyi
      have hy0 : 0 ≤ yi := by omega
      have hy1 : ¬ (1099511627776 : Int) ≤ yi := by omega
      rw [← hyi] at HNX
      clear hat hc2 hlb ha hkp hst6 hy hx hyi HOP HS HLN
      unfold keptV lpV
      rw [← HYI.out]
      replace g0 : w2.cell? ⟨sb, 1, none⟩ = some (lpV (if 1 ≤ 0 ∧ 0 ≤ k then some (lb 0) else none)) := g0
      replace g1 : w2.cell? ⟨sb, 2, none⟩ = some (.int .i64 ((if 1 ≤ 0 ∧ 0 ≤ k then n0 0 else 0 : Nat) : Int)) := g1
      replace g2 : w2.cell? ⟨sb, 3, none⟩ = some (.string (if 1 ≤ 0 ∧ 0 ≤ k then tx0 0 else ⟨#[]⟩)) := g2
      go_upto_region 9 with fail
      obtain ⟨w3, hw3⟩ : ∃ v, v = ((w2.setCell ⟨sb, 1, none⟩ (.pointer (some ⟨lb', 0, none⟩))).setCell ⟨sb, 2, none⟩ (.int .i64 yi)).setCell ⟨sb, 3, none⟩ (.string x) := ⟨_, rfl⟩
      have HN3 : Hid (StA B w0 b g cap sb k D2 M (upd lb 0 lb') (upd L 0 L') n0 tx0 w3) := by unfold Hid; rw [hw3]; exact HNX.out
      rw [← hw3]
      clear hw3 HNX g0 g1 g2 f0 f1 f2
      have HCN : Hid (∀ u : World, Below w3.heap.size w3 u → u.cell? ⟨sb, 2, none⟩ = some (.int .i64 yi)) := by
        intro u hu
        have h9 := (HN3.out.grow hu).st.cn (i := 0) (by omega)
        rw [← HY.out, ← HYI.out] at h9
        exact h9
      have HLA := Lib.hid (fun (u : World) (hs : StA B w0 b g cap sb k D2 M (upd lb 0 lb') (upd L 0 L') n0 tx0 u) => hs.layCall (i := 0) (Nat.zero_le _) hM (n0 0 + 1) ⟨#[]⟩ (by have := HHE.out; omega) (by show 0 ≤ _; exact Nat.zero_le _))
      have hci : ((n0 0 + 1 : Nat) : Int) = yi + 1 := by have h1 := HY.out; have h2 := HYI.out; omega
      have HCI := Lib.hid hci
      rw [hci] at HLA
      clear hci
      have c := HCN.out w3 (Below.refl _ _)
      go_wp2_with fail
      clear c
      skip
      have hdr : (w3.drew).cell? ⟨sb, 2, none⟩ = some (.int .i64 yi) := HCN.out _ (Below.refl _ _).drew
      have HNd := Lib.hid (HN3.out.grow (Below.refl _ _).drew)
      go_still_tail 9, (by kernel_rfl)
      change wpList _ _ _ _ _ w3.drew
      obtain ⟨wd, hwd⟩ : ∃ x, x = w3.drew := ⟨_, rfl⟩
      rw [← hwd] at hdr HNd ⊢
      clear hwd
      have HLD := Lib.hid (HLA.out wd HNd.out)
      go_wp2_with fail
      refine HLD.out.mono ?_
      rintro e w5 ⟨D', L9, wz, hat, hc, ⟨rfl, q2, q3⟩ | ⟨_, _, _, hr⟩⟩
      · obtain ⟨wl, hwl, r1, r2, r3⟩ := HNd.out.laid (i := 0) (Nat.zero_le _) hat hc q3
        rw [HCI.out] at hwl
        have e : w5 = wl := q2.trans hwl.symm
        subst e
        have HS5 := Lib.hid r1
        have HA5 := Lib.hid r3
        clear hat hc q2 q3 hwl r1 r2 r3 HLD hdr
        go_wp2_with fail
        go_ret
        exact ⟨D', _, _, rfl, HS5.out, HA5.out.ar HAR2.out, HLN2.out.alive (i := 0) HA5.out (Nat.zero_le _)⟩
      · cases hr with
        | gone hg _ => exact absurd HAR2.out hg.ar
end Go.Proofs.YtilpbjcbffbjeaaGreatDoor
namespace Go.Proofs.YtilpbjcbffbjeaaGreatDoor
set_option linter.unusedVariables false
set_option maxRecDepth 100000
open Go.RowKit
set_option linter.unusedSectionVars false
variable [Avoid]
section
variable {B b g cap : Nat} {w0 w w' : World} {D : Dk}
/-- A log is laid in two files that are empty. -/
theorem At.newU (h : At B w0 b g cap D w) (hok : DOk D) (al : D.dead = false) (ar : D.armed = 0) (hfew : FewS D) (f : Nat) (s : ByteArray) (hf : f + 1 < D.l.length) (z0 : D.l.getD f Fl.zero = Fl.zero) (z1 : D.l.getD (f + 1) Fl.zero = Fl.zero) (hs : s.size ≤ 16384) :
    Calls Tryz.prog 48 #[.pointer (some ⟨b, 0, none⟩), .int .i64 (f : Nat), .string s] w fun e w' => ∃ lb D', e = .returned (.tuple #[.pointer (some ⟨lb, 0, none⟩), .int .i64 0]) ∧ LAt B w0 b g cap lb D' ⟨f, f, 1, 0, false⟩ w' ∧ Chg (fun k => k = b ∨ k = g) w w' ∧ Alive D D' f ∧ LC D'.l 1 f ⟨f, f, 1, 0, false⟩ s [] 0 := by
  have hf0 : f < D.l.length := by omega
  have hz0 : (rd (D.l.getD f Fl.zero)).size = 0 := by rw [z0]; rfl
  have hz1 : (rd (D.l.getD (f + 1) Fl.zero)).size = 0 := by rw [z1]; rfl
  rcases writeX_c hok al f (recS 1 s) hf0 (by rw [hz0, size_recS]; omega) (hfew.many f hf0) with ⟨D1, e1, l1⟩ | ⟨D1, e1, l1⟩
  · have hl1 : D1.l.length = D.l.length := by rw [l1.l, List.length_set]
    rcases syncX_c l1.ok l1.al f (by rw [hl1]; exact hf0) with ⟨D2, e2, l2⟩ | ⟨D2, e2, l2⟩
    · refine (h.newOkC hok f s al hf hz0 hz1 hs hfew.many D1 e1 l1.ok D2 e2).mono ?_
      rintro e w' ⟨lb, q1, _, q3, q4⟩
      have hx1 : D1.l.getD f Fl.zero = ⟨⟨#[]⟩, [recS 1 s]⟩ := by rw [l1.l, getD_set_self _ _ _ _ hf0, z0]; rfl
      have hx2 : D2.l.getD f Fl.zero = ⟨recS 1 s, []⟩ := by rw [l2.l, getD_set_self _ _ _ _ (by rw [hl1]; exact hf0), hx1, rd_one]
      have hy2 : D2.l.getD (f + 1) Fl.zero = Fl.zero := by rw [l2.l, getD_set_ne _ _ _ _ _ (by omega), l1.l, getD_set_ne _ _ _ _ _ (by omega)]; exact z1
      have hl2 : D2.l.length = D.l.length := by rw [l2.l, List.length_set, hl1]
      refine ⟨lb, D2, q1, q3, q4, ⟨l2.ok, l2.al, l2.ch.trans l1.ch, fun a => l2.ar (l1.ar a), hl2, fun j h1 _ => ?_⟩, ?_⟩
      · rw [l2.l, getD_set_ne _ _ _ _ _ (Ne.symm h1), l1.l, getD_set_ne _ _ _ _ _ (Ne.symm h1)]
      · refine ⟨by rw [hl2]; exact hf, rfl, .inl rfl, rfl, rfl, Nat.le_refl _, Nat.le_refl _, ?_, ?_, hs, fun p hp => by cases hp⟩
        · show Cnt (D2.l.getD f Fl.zero) 1 s [] 0
          rw [hx2]
          refine ⟨Nat.le_refl _, ?_, rfl⟩
          show bs (recS 1 s) = _
          rw [bs_recS]; simp [recsL]
        · show D2.l.getD (2 * f + 1 - f) Fl.zero = Fl.zero
          rw [show 2 * f + 1 - f = f + 1 by omega]; exact hy2
    · exact absurd (l1.ar ar) l2.ar
  · exact absurd ar l1.ar
/-- What a disk's fitness is answered. -/
def fitE (t : Int) (n : Nat) : Int := if t < 1 ∨ 8 < t then 1 else if (n : Int) < 2 + 3 * t then 181 else 0
theorem sfitsW (h : IsDisk w b g cap D) (al : D.dead = false) (t : Int) : Calls Tryz.prog 46 #[.pointer (some ⟨b, 0, none⟩), .int .i64 t] w fun e w' => e = .returned (.int .i64 (fitE t D.l.length)) ∧ w' = w := by
  have HD := Lib.hid (deadW h)
  rw [al] at HD
  have HC := Lib.hid (countW h)
  obtain ⟨n, hn⟩ : ∃ n, n = D.l.length := ⟨_, rfl⟩
  rw [← hn] at HC ⊢
  clear h hn
  by_cases h1 : t < 1
  · rw [show fitE t n = 1 by unfold fitE; rw [if_pos (.inl h1)]]
    go_enter Tryz.func46, Tryz.ntmps46
    go_wp2
    go_ret
    exact ⟨rfl, rfl⟩
  · by_cases h2 : 8 < t
    · rw [show fitE t n = 1 by unfold fitE; rw [if_pos (.inr h2)]]
      go_enter Tryz.func46, Tryz.ntmps46
      go_wp2
      go_ret
      exact ⟨rfl, rfl⟩
    · obtain ⟨k, hk⟩ : ∃ k : Nat, t = (k : Int) := ⟨t.toNat, by omega⟩
      subst hk
      have HF := Lib.hid (fun w => sfilesW k w (by omega))
      by_cases h3 : (n : Int) < 2 + 3 * (k : Int)
      · rw [show fitE (k : Int) n = 181 by unfold fitE; rw [if_neg (by omega), if_pos h3]]
        have h4 : (n : Int) < ((2 + 3 * k : Nat) : Int) := by omega
        obtain ⟨m, hm⟩ : ∃ m, m = 2 + 3 * k := ⟨_, rfl⟩
        rw [← hm] at h4 HF
        clear h3 hm
        go_enter Tryz.func46, Tryz.ntmps46
        go_wp2_with fail
        refine HD.out.mono ?_
        rintro e w1 ⟨rfl, rfl⟩
        go_wp2_with fail
        refine HC.out.mono ?_
        rintro e w1 ⟨rfl, rfl⟩
        go_wp2_with fail
        refine (HF.out _).mono ?_
        rintro e w1 ⟨rfl, rfl⟩
        go_wp2_with fail
        go_ret
        exact ⟨rfl, rfl⟩
      · rw [show fitE (k : Int) n = 0 by unfold fitE; rw [if_neg (by omega), if_neg h3]]
        have h4 : ¬ (n : Int) < ((2 + 3 * k : Nat) : Int) := by omega
        obtain ⟨m, hm⟩ : ∃ m, m = 2 + 3 * k := ⟨_, rfl⟩
        rw [← hm] at h4 HF
        clear h3 hm
        go_enter Tryz.func46, Tryz.ntmps46
        go_wp2_with fail
        refine HD.out.mono ?_
        rintro e w1 ⟨rfl, rfl⟩
        go_wp2_with fail
        refine HC.out.mono ?_
        rintro e w1 ⟨rfl, rfl⟩
        go_wp2_with fail
        refine (HF.out _).mono ?_
        rintro e w1 ⟨rfl, rfl⟩
        go_wp2_with fail
        go_ret
        exact ⟨rfl, rfl⟩
set_option maxHeartbeats 2000000 in
theorem sOpenU {ten M : Nat} {n0 : Nat → Nat} {tx0 : Nat → ByteArray} (h : At B w0 b g cap D w) (h1 : 1 ≤ ten) (h8 : ten ≤ 8) (hn : 2 + 3 * ten ≤ D.l.length)
    (hok : DOk D) (al : D.dead = false) (ar : D.armed = 0) (few : FewS D) (hM : M < 1099511627776) (hrs : ∀ i, i ≤ ten → Rs D.l M (fiS i) (moS i) (n0 i) (tx0 i)) (he : n0 0 < 1099511627776) (hz : ∀ i, ten < i → n0 i = 0 ∧ tx0 i = ⟨#[]⟩) :
    Calls Tryz.prog 21 #[.pointer (some ⟨b, 0, none⟩), .int .i64 (ten : Nat)] w fun e w' => ∃ sb D' lb L, e = .returned (.tuple #[.pointer (some ⟨sb, 0, none⟩), .int .i64 0]) ∧ w.heap.size ≤ sb ∧ StA B w0 b g cap sb ten D' (M + 1) lb L (upd n0 0 (n0 0 + 1)) (upd tx0 0 ⟨#[]⟩) w' ∧ D'.armed = 0 ∧ LenO ten D.l D'.l := by
  have HFI := Lib.hid (sfitsW h.disk al (ten : Nat))
  rw [show fitE ((ten : Nat) : Int) D.l.length = 0 by unfold fitE; rw [if_neg (by omega), if_neg (by omega)]] at HFI
  have hb1 : Below w.heap.size w (w.alloc (.cells (stC ten (fun _ => none) (fun _ => 0) (fun _ => ⟨#[]⟩) false) 116)) := (Below.refl _ _).alloc (Nat.le_refl _) _
  have HOP := Lib.hid (sopensU (sb := w.heap.size) (h.grow hb1) (heap_alloc_new w _) (by have := h.below.size; have := h.le; omega) h1 h8 hok al ar few hM hrs he hz)
  clear h hb1 hok al ar few hrs he hz hn
  go_enter Tryz.func21, Tryz.ntmps21
  go_wp2_with fail
  refine HFI.out.mono ?_
  rintro e w1 ⟨rfl, rfl⟩
  clear HFI
  go_wp2_with fail
  refine HOP.out.mono ?_
  rintro e w2 ⟨D', lb, L, rfl, hst, har, hln⟩
  have HS := Lib.hid hst
  have HA := Lib.hid (And.intro har hln)
  clear hst har hln HOP
  go_wp2_with fail
  refine (sfoundNil _).mono ?_
  rintro e w3 ⟨rfl, hb⟩
  have HS3 := Lib.hid (HS.out.grow hb)
  clear hb HS
  go_wp2_with fail
  go_ret2
  exact ⟨_, D', lb, L, rfl, Nat.le_refl _, HS3.out, HA.out.1, HA.out.2⟩
theorem LC.rs0 {l : List Fl} {f most : Nat} (h : LC l 1 f ⟨f, f, 1, 0, false⟩ (entS 0 ⟨#[]⟩) [] 0) : Rs l 1 f most 0 ⟨#[]⟩ :=
  ⟨_, [], h.rest, Nat.zero_le _, ents_one (by omega) (by show 0 ≤ _; exact Nat.zero_le _), rfl, by omega, by show 0 ≤ _; exact Nat.zero_le _⟩
set_option maxHeartbeats 3200000 in
theorem sNewU {ten : Nat} (h : At B w0 b g cap D w) (h1 : 1 ≤ ten) (h8 : ten ≤ 8) (hn : 2 + 3 * ten ≤ D.l.length)
    (hok : DOk D) (al : D.dead = false) (ar : D.armed = 0) (few : FewS D) (hz : ∀ j, D.l.getD j Fl.zero = Fl.zero) :
    Calls Tryz.prog 11 #[.pointer (some ⟨b, 0, none⟩), .int .i64 (ten : Nat)] w fun e w' => ∃ sb D' lb L, e = .returned (.tuple #[.pointer (some ⟨sb, 0, none⟩), .int .i64 0]) ∧ StA B w0 b g cap sb ten D' 2 lb L (upd (fun _ => 0) 0 1) (upd (fun _ => ⟨#[]⟩) 0 ⟨#[]⟩) w' ∧ D'.armed = 0 ∧ LenO ten D.l D'.l := by
  have HFI := Lib.hid (sfitsW h.disk al (ten : Nat))
  rw [show fitE ((ten : Nat) : Int) D.l.length = 0 by unfold fitE; rw [if_neg (by omega), if_neg (by omega)]] at HFI
  have HFL := Lib.hid (fun w => sfilesW ten w h8)
  obtain ⟨m, hm⟩ : ∃ m, m = 2 + 3 * ten := ⟨_, rfl⟩
  rw [← hm] at HFL hn
  have HMM := Lib.hid hm
  have HH := Lib.hid h
  have HZ := Lib.hid hz
  have HP : Hid (DOk D ∧ D.dead = false ∧ D.armed = 0 ∧ FewS D) := ⟨hok, al, ar, few⟩
  have HN := Lib.hid hn
  have hmb : m ≤ 26 := by omega
  have HEN := Lib.hid (fun w => sentryW 0 ⟨#[]⟩ w (by decide) (by decide))
  obtain ⟨s, hs⟩ : ∃ s, s = entS 0 ⟨#[]⟩ := ⟨_, rfl⟩
  have HSD := Lib.hid hs
  have hsz : s.size ≤ 16384 := by rw [hs, size_entS]; decide
  have HSZ := Lib.hid hsz
  rw [← hs] at HEN
  clear h hok al ar few hz hn hm hs hsz
  go_enter Tryz.func11, Tryz.ntmps11
  go_wp2_with fail
  refine HFI.out.mono ?_
  rintro e w1 ⟨rfl, rfl⟩
  clear HFI
  go_wp2_with fail
  refine (HFL.out _).mono ?_
  rintro e w1 ⟨rfl, rfl⟩
  clear HFL
  go_wp2_with fail
  go_loopw [22] (fun v22 wr => ∃ f : Nat, v22 = .int .i64 (f : Nat) ∧ f ≤ m ∧ At B w0 b g cap D wr) (fun v _ => (m - intOf v).toNat)
  case atStart => exact ⟨0, rfl, Nat.zero_le _, HH.out⟩
  case round =>
    clear HH
    obtain ⟨f, rfl, hf, hat⟩ := hrel
    have HAT := Lib.hid hat
    clear hat
    by_cases hlt : f < m
    · have hi1 : (f : Int) < (m : Int) := by omega
      have HSI := Lib.hid (sizeYes HAT.out.disk HP.out.1 f (by have := HN.out; omega))
      rw [HZ.out f, show ((rd Fl.zero).size : Nat) = 0 from rfl] at HSI
      go_wp2_with fail
      refine HSI.out.mono ?_
      rintro e w2 ⟨rfl, hb⟩
      have HAT2 := Lib.hid (HAT.out.grow hb)
      clear hb HSI
      go_wp2_with fail
      exact ⟨⟨f + 1, rfl, by omega, HAT2.out⟩, by simp only [intOf]; omega⟩
    · have hi1 : ¬ (f : Int) < (m : Int) := by omega
      clear hlt
      go_wp2_with fail
      refine (HEN.out _).mono ?_
      rintro e w2 ⟨rfl, hb⟩
      have HAT2 := Lib.hid (HAT.out.grow hb)
      clear hb HAT
      have HNW := Lib.hid (HAT2.out.newU HP.out.1 HP.out.2.1 HP.out.2.2.1 HP.out.2.2.2 0 s (by have := HN.out; have := HMM.out; omega) (HZ.out 0) (HZ.out 1) HSZ.out)
      go_wp2_with fail
      refine HNW.out.mono ?_
      rintro e w3 ⟨lb0, D3, rfl, hat3, _, ha3, hlc3⟩
      have HAT3 := Lib.hid hat3.on
      have HA3 := Lib.hid ha3
      have HRS3 : Hid (Rs D3.l 1 0 0 0 ⟨#[]⟩) := by have h9 := hlc3; rw [HSD.out] at h9; exact h9.rs0
      have HFW3 := Lib.hid (HP.out.2.2.2.alive ha3 hlc3 (by decide))
      have HWR := Lib.hid (swrapOk ⟨#[116, 104, 101, 32, 101, 112, 111, 99, 104, 115]⟩)
      clear hat3 ha3 hlc3 HNW HAT2
      go_wp2_with fail
      refine (HWR.out _).mono ?_
      rintro e w4 ⟨rfl, rfl⟩
      clear HWR
      go_wp2_with fail
      go_loopw [10, 39] (fun v10 v39 wr => ∃ (t : Nat) (D1 : Dk), v39 = .int .i64 (t : Nat) ∧ v10 = .nilIface ∧ t ≤ ten ∧ At B w0 b g cap D1 wr ∧ DOk D1 ∧ D1.dead = false ∧ D1.armed = 0 ∧ FewS D1 ∧ LenO ten D.l D1.l ∧ (∀ i, i ≤ t → Rs D1.l 1 (fiS i) (moS i) 0 ⟨#[]⟩) ∧ (∀ i, t < i → D1.l.getD (fiS i) Fl.zero = Fl.zero ∧ D1.l.getD (fiS i + 1) Fl.zero = Fl.zero)) (fun _ v _ => (ten - intOf v).toNat)
      case atStart =>
        refine ⟨0, D3, rfl, rfl, Nat.zero_le _, HAT3.out, HA3.out.ok, HA3.out.al, HA3.out.ar HP.out.2.2.1, HFW3.out, (LenO.refl ten D.l).alive (i := 0) HA3.out (Nat.zero_le _), fun i hi => ?_, fun i hi => ⟨?_, ?_⟩⟩
        · obtain rfl : i = 0 := by omega
          exact HRS3.out
        · rw [HA3.out.other _ (by unfold fiS; omega) (by unfold fiS; omega)]; exact HZ.out _
        · rw [HA3.out.other _ (by unfold fiS; omega) (by unfold fiS; omega)]; exact HZ.out _
      case round =>
        clear HAT3 HA3 HRS3 HFW3
        obtain ⟨t, D1, rfl, rfl, ht, hat, hok, hal, har, hfw, hln, hrs, hzz⟩ := hrel
        have HAT := Lib.hid hat
        have HQ : Hid (DOk D1 ∧ D1.dead = false ∧ D1.armed = 0 ∧ FewS D1) := ⟨hok, hal, har, hfw⟩
        have HLN := Lib.hid hln
        have HRS := Lib.hid hrs
        have HZZ := Lib.hid hzz
        clear hat hok hal har hfw hln hrs hzz
        by_cases hlt : t < ten
        · have hi1 : (t : Int) < (ten : Int) := by omega
          have HLG := Lib.hid (fun w => slogW t w (by omega))
          obtain ⟨z, hz⟩ : ∃ z, z = fiS (t + 1) := ⟨_, rfl⟩
          have HZE := Lib.hid hz
          rw [← hz] at HLG
          clear hz
          go_wp2_with fail
          refine (HLG.out _).mono ?_
          rintro e w5 ⟨rfl, rfl⟩
          clear HLG
          go_wp2_with fail
          refine (HEN.out _).mono ?_
          rintro e w5 ⟨rfl, hb⟩
          have HAT2 := Lib.hid (HAT.out.grow hb)
          clear hb HAT
          have HNW := Lib.hid (HAT2.out.newU HQ.out.1 HQ.out.2.1 HQ.out.2.2.1 HQ.out.2.2.2 z s (by rw [HZE.out, HLN.out.len]; have := HN.out; have := HMM.out; unfold fiS; omega) (by rw [HZE.out]; exact (HZZ.out (t + 1) (by omega)).1) (by rw [HZE.out]; exact (HZZ.out (t + 1) (by omega)).2) HSZ.out)
          go_wp2_with fail
          refine HNW.out.mono ?_
          rintro e w6 ⟨lb0, D3, rfl, hat3, _, ha3, hlc3⟩
          have HAT3 := Lib.hid hat3.on
          have HA3 := Lib.hid ha3
          have HRS3 : Hid (Rs D3.l 1 z 16000 0 ⟨#[]⟩) := by have h9 := hlc3; rw [HSD.out] at h9; exact h9.rs0
          have HFW3 := Lib.hid (HQ.out.2.2.2.alive ha3 hlc3 (by decide))
          have HWR := Lib.hid (swrapOk ⟨#[97, 32, 116, 101, 110, 97, 110, 116]⟩)
          clear hat3 ha3 hlc3 HNW HAT2
          go_wp2_with fail
          refine (HWR.out _).mono ?_
          rintro e w7 ⟨rfl, rfl⟩
          clear HWR
          go_wp2_with fail
          refine ⟨⟨t + 1, D3, rfl, rfl, by omega, HAT3.out, HA3.out.ok, HA3.out.al, HA3.out.ar HQ.out.2.2.1, HFW3.out, HLN.out.alive (i := t + 1) (by have h := HA3.out; rw [HZE.out] at h; exact h) (by omega), fun i hi => ?_, fun i hi => ⟨?_, ?_⟩⟩, by simp only [intOf]; omega⟩
          · by_cases e : i = t + 1
            · subst e
              rw [← HZE.out, show moS (t + 1) = 16000 by unfold moS; rw [if_neg (by omega)]]
              exact HRS3.out
            · obtain ⟨f1, f2, f3⟩ := fiS_far e
              rw [← HZE.out] at f1 f2 f3
              exact (HRS.out i (by omega)).alive HA3.out f1 f2 f3
          · rw [HA3.out.other _ (by rw [HZE.out]; unfold fiS; omega) (by rw [HZE.out]; unfold fiS; omega)]; exact (HZZ.out i (by omega)).1
          · rw [HA3.out.other _ (by rw [HZE.out]; unfold fiS; omega) (by rw [HZE.out]; unfold fiS; omega)]; exact (HZZ.out i (by omega)).2
        · have hi1 : ¬ (t : Int) < (ten : Int) := by omega
          obtain rfl : t = ten := by omega
          clear hlt
          have HOP := Lib.hid (sOpenU HAT.out h1 h8 (by rw [HLN.out.len]; have := HN.out; have := HMM.out; omega) HQ.out.1 HQ.out.2.1 HQ.out.2.2.1 HQ.out.2.2.2 (M := 1) (n0 := fun _ => 0) (tx0 := fun _ => ⟨#[]⟩) (by decide) HRS.out (by decide) (fun _ _ => ⟨rfl, rfl⟩))
          go_wp2_with fail
          refine HOP.out.mono ?_
          rintro e w7 ⟨sb, D', lb, L, rfl, _, hst, har, hln⟩
          have HS := Lib.hid hst
          have HA := Lib.hid (And.intro har hln)
          clear hst har hln HOP
          go_wp2_with fail
          go_ret2
          exact ⟨sb, D', lb, L, rfl, HS.out, HA.out.1, HLN.out.trans HA.out.2⟩
end
end Go.Proofs.YtilpbjcbffbjeaaGreatDoor
namespace Go.Proofs.YtilpbjcbffbjeaaGreatDoor
set_option linter.unusedVariables false
set_option maxRecDepth 100000
open Go.RowKit
theorem makeSn (u : World) (n : Nat) (hn : n ≤ 1048576) : (Instr.makeSlice 28 (.int .i64 (n : Int)) (.int .i64 (n : Int))).run Tryz.prog u = .ok (.slice (some ⟨u.heap.size, 0, none⟩) n n) (u.alloc (.cells (madeCells #[.string ⟨#[]⟩] n) 9)) := by
  obtain ⟨i0, hi0, hz0, hz1, hz2⟩ := info_parts infoStr
  have h := run_make (P := Tryz.prog) u 28 9 i0 (.string ⟨#[]⟩) Tryz.underlying28 hi0 hz0 .i64 .i64 (n : Int) (n : Int) (by omega) (by omega) (by rw [hz2]; omega) (by omega)
  rw [hz1] at h
  simpa [Value.cells] using h
theorem madeStrs (u : World) (n : Nat) : Strs (u.alloc (.cells (madeCells #[.string ⟨#[]⟩] n) 9)) (.slice (some ⟨u.heap.size, 0, none⟩) n n) (List.replicate n (⟨#[]⟩ : ByteArray)) := by
  have h : Strs (u.alloc (.cells (madeCells #[.string ⟨#[]⟩] n) 9)) (.slice (some ⟨u.heap.size, 0, none⟩) (List.replicate n (⟨#[]⟩ : ByteArray)).length n) (List.replicate n (⟨#[]⟩ : ByteArray)) := by
    refine Strs.mk fun i hi => ?_
    rw [List.length_replicate] at hi
    refine ⟨u.heap.size, 0, rfl, ?_⟩
    rw [cell_of_row _ u.heap.size (0 + i) _ 9 _ (heap_alloc_new u _)]
    simp [madeCells, Nat.mod_one, hi]
  rwa [List.length_replicate] at h
theorem newErr_reps (n : Nat) (h0 : 0 < n) (h1 : n ≤ 32) : newErr (List.replicate n (⟨#[]⟩ : ByteArray)) = 0 := by
  unfold newErr
  rw [List.length_replicate, if_neg (by omega), if_neg]
  intro h
  obtain ⟨s, hs, hz⟩ := List.any_eq_true.1 h
  rw [(List.mem_replicate.1 hs).2] at hz
  exact absurd hz (by decide)
theorem newDk_reps (n : Nat) : newDk (List.replicate n (⟨#[]⟩ : ByteArray)) = ⟨List.replicate n Fl.zero, 0, [], false⟩ := by
  unfold newDk
  rw [List.map_replicate]
  rfl
/-- A disk of empty files. -/
theorem newReps {w : World} (v : Value) (n : Nat) (h0 : 0 < n) (h1 : n ≤ 32) (h : Strs w v (List.replicate n (⟨#[]⟩ : ByteArray))) :
    Calls Tryz.prog 10 #[v] w fun e w' => ∃ b g cap D, e = .returned (.tuple #[.pointer (some ⟨b, 0, none⟩), .int .i64 0]) ∧ At w.heap.size w b g cap D w' ∧ DOk D ∧ D.dead = false ∧ D.armed = 0 ∧ FewS D ∧ D.l.length = n ∧ (∀ j, D.l.getD j Fl.zero = Fl.zero) := by
  refine (newW v _ h (by rw [List.length_replicate]; omega) (fun i hi => ?_)).mono ?_
  · rw [List.length_replicate] at hi
    rw [List.getD_eq_getElem?_getD, List.getElem?_replicate, if_pos hi]
    decide
  · rintro e w' ⟨hb, ⟨hne, _⟩ | ⟨h2, b, g, cap, rfl, hid, hbb, hgg⟩⟩
    · exact absurd (newErr_reps n h0 h1) hne
    · have hok := newDk_ok h2
      rw [newDk_reps] at hid hok
      have hg0 : ∀ j, (List.replicate n Fl.zero).getD j Fl.zero = Fl.zero := by
        intro j
        rw [List.getD_eq_getElem?_getD, List.getElem?_replicate]
        split <;> rfl
      refine ⟨b, g, cap, _, rfl, ⟨hid, hb, hbb, hgg, Nat.le_refl _⟩, ?_, rfl, rfl, ?_, List.length_replicate, hg0⟩
      · exact hok
      · intro j hj
        show ((List.replicate n Fl.zero).getD j Fl.zero).ws.length ≤ _
        rw [hg0]
        exact Nat.zero_le _
theorem At.rebaseS {B C : Nat} {w0 w1 w' : World} {b g cap : Nat} {D : Dk} (h : At C w1 b g cap D w') (hb : Below B w0 w1) (hB : B ≤ C) (hB0 : B ≤ w0.heap.size) : At B w0 b g cap D w' :=
  ⟨h.disk, hb.trans (h.below.mono hB), Nat.le_trans hB h.bB, Nat.le_trans hB h.gB, hB0⟩
theorem sNewNo {B b g cap : Nat} {w0 w : World} {D : Dk} (h : At B w0 b g cap D w) (al : D.dead = false) (t : Int) (hf : fitE t D.l.length ≠ 0) :
    Calls Tryz.prog 11 #[.pointer (some ⟨b, 0, none⟩), .int .i64 t] w fun e w' => e = .returned (.tuple #[.pointer none, .int .i64 (fitE t D.l.length)]) ∧ w' = w := by
  have HFI := Lib.hid (sfitsW h.disk al t)
  obtain ⟨z, hz⟩ : ∃ z, z = fitE t D.l.length := ⟨_, rfl⟩
  rw [← hz] at HFI hf ⊢
  have hb : (z != 0) = true := by rw [bne_iff_ne]; exact hf
  clear hz hf h al
  go_enter Tryz.func11, Tryz.ntmps11
  go_wp2_with fail
  refine HFI.out.mono ?_
  rintro e w1 ⟨rfl, rfl⟩
  go_wp2_with fail
  go_ret2
  exact ⟨rfl, rfl⟩
end Go.Proofs.YtilpbjcbffbjeaaGreatDoor
namespace Go.Proofs.YtilpbjcbffbjeaaGreatDoor
set_option linter.unusedVariables false
set_option maxRecDepth 100000
open Go.RowKit
def xS : ByteArray := ⟨#[120]⟩
/-- A commit where the power stays. -/
theorem StA.commitU {B b g cap sb ten M : Nat} {w0 w : World} {D : Dk} {lb : Nat → Nat} {L : Nat → Lg} {n : Nat → Nat} {tx : Nat → ByteArray} (h : StA B w0 b g cap sb ten D M lb L n tx w) (ar : D.armed = 0) (hM : M < 1099511627776) (t : Nat) (ht : t < ten) (u : ByteArray) (hu : u.size ≤ 16000) (hg : n (t + 1) < 1099511627776) :
    Calls Tryz.prog 15 #[.pointer (some ⟨sb, 0, none⟩), .int .i64 (t : Nat), .int .i64 (n (t + 1) : Nat), .string u] w fun e w' => ∃ D' L', e = .returned (.int .i64 0) ∧ StA B w0 b g cap sb ten D' (M + 1) lb (upd L (t + 1) L') (upd n (t + 1) (n (t + 1) + 1)) (upd tx (t + 1) u) w' ∧ Chg (SS lb (t + 1) b g sb) w w' ∧ D'.armed = 0 ∧ D'.l.length = D.l.length := by
  refine (h.commit hM t ht u hu hg (fun e => absurd ar e)).mono ?_
  rintro e w' ⟨D', L', ⟨q1, q2, q3, q4⟩ | ⟨_, _, _, _, hg, _⟩⟩
  · exact ⟨D', L', q1, q2, q3, q4.ar ar, q4.len⟩
  · exact absurd ar hg.ar
theorem FewS.died (D : Dk) (css : List (List Int)) : FewS (D.died css) := by
  intro j hj
  have hl := (died_l D css).1
  obtain ⟨cs, e⟩ := (died_l D css).2 j (by rw [← hl]; exact hj)
  rw [e]
  exact Nat.zero_le _
theorem crashX_liveS {D : Dk} (h : D.dead = false) (css : List (List Int)) : D.crashX css = (D.died css, 0) := by unfold Dk.crashX; rw [if_neg (by rw [h]; exact Bool.false_ne_true)]
end Go.Proofs.YtilpbjcbffbjeaaGreatDoor
namespace Go.Proofs.YtilpbjcbffbjeaaGreatDoor
set_option linter.unusedVariables false
set_option maxRecDepth 100000
open Go.RowKit
set_option linter.unusedSectionVars false
/-- All blocks that a store's commits change. -/
def SA (ten : Nat) (lb : Nat → Nat) (b g sb : Nat) : Nat → Prop := fun k => k = b ∨ k = g ∨ k = sb ∨ ∃ i, i ≤ ten ∧ k = lb i
section
variable [Avoid]
variable {B b g cap sb ten M : Nat} {w0 w w' : World} {D : Dk} {lb : Nat → Nat} {L : Nat → Lg} {n : Nat → Nat} {tx : Nat → ByteArray}
theorem StA.muts (h : StA B w0 b g cap sb ten D M lb L n tx w) : Muts (SA ten lb b g sb) w := by
  intro k hk hS cur T fr hh
  rcases hS with e | e | e | ⟨i, hi, e⟩
  · exact h.on.disk.muts k hk (.inl e) cur T fr hh
  · exact h.on.disk.muts k hk (.inr e) cur T fr hh
  · exact h.st.muts k hk e cur T fr hh
  · exact (h.lg i hi).1.mutsL k hk e cur T fr hh
theorem StA.mono (h : StA B w0 b g cap sb ten D M lb L n tx w) {M' : Nat} (hm : M ≤ M') : StA B w0 b g cap sb ten D M' lb L n tx w :=
  ⟨h.on, h.st, h.sB, h.lg, h.inj, h.t8, h.ok, h.al, h.few, fun i hi => (h.kp i hi).mono hm⟩
/-- A store stays while others' blocks change. -/
theorem StA.beside {S : Nat → Prop} (h : StA B w0 b g cap sb ten D M lb L n tx w) (hc : Chg S w w') (hm : Muts S w) (hS : ∀ k, SA ten lb b g sb k → ¬ S k) (hB : ∀ k, S k → B ≤ k) : StA B w0 b g cap sb ten D M lb L n tx w' :=
  ⟨⟨h.on.disk.keep hc (hS b (.inl rfl)) (hS g (.inr (.inl rfl))) hm, h.on.below.trans (hc.below (Nat.le_trans h.on.le h.on.below.size) (fun k hk hs => absurd (hB k hs) (by omega))), h.on.bB, h.on.gB, h.on.le⟩,
    h.st.keep hc (hS sb (.inr (.inr (.inl rfl)))), h.sB, fun i hi => ⟨(h.lg i hi).1.keep hc (hS _ (.inr (.inr (.inr ⟨i, hi, rfl⟩)))), (h.lg i hi).2⟩, h.inj, h.t8, h.ok, h.al, h.few, h.kp⟩
theorem StA.lt (h : StA B w0 b g cap sb ten D M lb L n tx w) : ∀ k, SA ten lb b g sb k → k < w.heap.size := by
  intro k hk
  rcases hk with e | e | e | ⟨i, hi, e⟩
  · rw [e]; exact h.on.disk.lt
  · rw [e]; exact h.on.disk.fs.lt
  · rw [e]; exact h.st.lt
  · rw [e]; exact (h.lg i hi).1.lt
theorem StA.ge (h : StA B w0 b g cap sb ten D M lb L n tx w) : ∀ k, SA ten lb b g sb k → B ≤ k := by
  intro k hk
  rcases hk with e | e | e | ⟨i, hi, e⟩
  · rw [e]; exact h.on.bB
  · rw [e]; exact h.on.gB
  · rw [e]; exact h.sB
  · rw [e]; exact (h.lg i hi).2
end
end Go.Proofs.YtilpbjcbffbjeaaGreatDoor
