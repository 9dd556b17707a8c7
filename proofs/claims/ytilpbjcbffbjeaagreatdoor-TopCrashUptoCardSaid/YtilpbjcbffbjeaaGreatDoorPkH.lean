/- The errors of a log whose power went: step, errors.Is, told.
   errors.Join of errors of a disk whose power went.
   The log's write, Append, Sync where the power goes in them. -/
import Derived.Test.YtilpbjcbffbjeaaGreatDoorPkG
import Derived.Test.YtilpbjcbffbjeaaGreatDoorShelf
import Derived.LaidEql
import Derived.Stop.Asserts
import Derived.RowKitTokens
import Derived.Test.YtilpbjcbffbjeaaGreatDoorPkA
namespace Go.Proofs.YtilpbjcbffbjeaaGreatDoor
set_option linter.unusedVariables false
set_option maxRecDepth 100000
open Go.RowKit Go.Extern.Stop Go.Stop Go.Extern
def goneS : ByteArray := ⟨#[116, 104, 101, 32, 112, 111, 119, 101, 114, 32, 119, 101, 110, 116]⟩
/-- An error of a step that the power ended. -/
def GErr (t : ByteArray) : Value := .iface 172 (.agg #[.string t, .iface 170 (.string goneS)])
set_option maxHeartbeats 800000 in
theorem stepGone (nm : ByteArray) (hn : nm.size ≤ 100) (w : World) : Calls Tryz.prog 85 #[.string nm, .int .i64 2] w fun e w' => ∃ t, e = .returned (GErr t) ∧ w' = w := by
  have HI := Lib.hid (fun w => Tryz.strconv_Itoa_small 2 (by decide) w)
  obtain ⟨d, hd⟩ : ∃ d : ByteArray, d = ⟨(Lib.decDigits 2).toArray⟩ := ⟨_, rfl⟩
  have hds : d.size = 1 := by rw [hd]; kernel_rfl
  rw [← hd] at HI
  clear hd
  have m1 : ¬ 9223372036854775807 < nm.size + (ByteArray.size ⟨#[58, 32, 101, 114, 114, 111, 114, 32]⟩) := by rw [show ByteArray.size ⟨#[58, 32, 101, 114, 114, 111, 114, 32]⟩ = 8 from rfl]; omega
  have m2 : ¬ 9223372036854775807 < (nm ++ ⟨#[58, 32, 101, 114, 114, 111, 114, 32]⟩).size + d.size := by rw [ByteArray.size_append, show ByteArray.size ⟨#[58, 32, 101, 114, 114, 111, 114, 32]⟩ = 8 from rfl]; omega
  go_enter Tryz.func85, Tryz.ntmps85
  go_wp2_with fail
  refine (HI.out _).mono ?_
  rintro e w1 ⟨rfl, rfl⟩
  go_wp2_with fail
  go_ret
  exact ⟨_, rfl, rfl⟩
theorem typeOfL (v : Value) (w : World) : (ReflectliteType.typeOf #[.iface 170 v]).run Tryz.prog w = .ok (.iface 209 (.agg #[Go.typeHandle Tryz.prog 170])) w := by kernel_rfl
theorem methodComparable (h : Value) (w : World) : (Go.method 409 209 (.agg #[h]) "Comparable").run Tryz.prog w = .ok (220, .agg #[h]) w := by kernel_rfl
theorem comparableL (w : World) : (ReflectliteType.method (fun t => do Rtype.noPackHeld "Comparable" t; (fun a : TypeInfo => Value.bool a.comparable) <$> typeInfo t) #[.agg #[Go.typeHandle Tryz.prog 170]]).run Tryz.prog w = .ok (.bool true) w := by kernel_rfl
theorem lackEq (v u : Value) (w : World) : (binOp .eql 103 (.iface 172 v) (.iface 170 u)).run Tryz.prog w = .ok (.bool false) w := by kernel_rfl
theorem lackEqL (w : World) : (binOp .eql 103 (.iface 170 (.string goneS)) (.iface 170 (.string goneS))).run Tryz.prog w = .ok (.bool true) w := by kernel_rfl
theorem gNoIs (v : Value) (xT : TypeId) (w : World) : (Instr.typeAssert (.iface 172 v) xT 234 true).run Tryz.prog w = .ok (.tuple #[.nilIface, .bool false]) w := run_typeAssert_lacksB Tryz.underlying234 (by kernel_rfl) (by kernel_rfl) v xT w
theorem gHasUnwrap (v : Value) (xT : TypeId) (w : World) : (Instr.typeAssert (.iface 172 v) xT 216 true).run Tryz.prog w = .ok (.tuple #[.iface 172 v, .bool true]) w := run_typeAssert_hasB Tryz.underlying216 (by kernel_rfl) v xT w
theorem jNoIs (v : Value) (xT : TypeId) (w : World) : (Instr.typeAssert (.iface 201 v) xT 234 true).run Tryz.prog w = .ok (.tuple #[.nilIface, .bool false]) w := run_typeAssert_lacksB Tryz.underlying234 (by kernel_rfl) (by kernel_rfl) v xT w
theorem jNoUnwrap (v : Value) (xT : TypeId) (w : World) : (Instr.typeAssert (.iface 201 v) xT 216 true).run Tryz.prog w = .ok (.tuple #[.nilIface, .bool false]) w := run_typeAssert_lacksB Tryz.underlying216 (by kernel_rfl) (by kernel_rfl) v xT w
theorem jHasUnwraps (v : Value) (xT : TypeId) (w : World) : (Instr.typeAssert (.iface 201 v) xT 217 true).run Tryz.prog w = .ok (.tuple #[.iface 201 v, .bool true]) w := run_typeAssert_hasB Tryz.underlying217 (by kernel_rfl) v xT w
theorem gMethodUnwrap (v : Value) (w : World) : (Go.method 409 172 v "Unwrap").run Tryz.prog w = .ok (211, v) w := by kernel_rfl
theorem jMethodUnwrap (v : Value) (w : World) : (Go.method 409 201 v "Unwrap").run Tryz.prog w = .ok (217, v) w := by kernel_rfl
theorem gUnwrapW (t : ByteArray) (v : Value) (w : World) : Calls Tryz.prog 211 #[.agg #[.string t, v]] w fun e w' => e = .returned v ∧ w' = w.alloc (.cells #[.string t, v] 172) := by
  go_enter Tryz.func211, Tryz.ntmps211
  go_wp2
  go_ret
  exact ⟨rfl, rfl⟩
theorem eisGone (t : ByteArray) (w : World) : Calls Tryz.prog 132 #[GErr t, .iface 170 (.string goneS), .bool true] w fun e w' => e = .returned (.bool true) ∧ Below w.heap.size w w' := by
  have q1 := lackEq
  have q2 := lackEqL
  have q3 := gNoIs
  have q4 := gHasUnwrap
  have q5 := gMethodUnwrap
  unfold GErr
  go_enter Tryz.func132, Tryz.ntmps132
  go_wp2_with fail
  refine wp_loop_rounds 2 ?_
  rw [rounds_succ]
  go_wp2_with (go_at_call 211; refine (gUnwrapW _ _ _).mono ?_; rintro e w' ⟨rfl, rfl⟩)
  rw [rounds_succ]
  go_wp2_with fail
  go_ret
  exact ⟨rfl, (Below.refl _ _).alloc (Nat.le_refl _) _⟩
set_option maxHeartbeats 800000 in
theorem eisJoin (p q : Addr) (n c : Nat) (t : ByteArray) (w : World) (hp : p.spot = none) (hn : 0 < n) (hn2 : n < 100) (hc : w.cell? p = some (.slice (some q) n c)) (hq : w.cell? q = some (GErr t)) (hqs : q.spot = none) :
    Calls Tryz.prog 132 #[.iface 201 (.pointer (some p)), .iface 170 (.string goneS), .bool true] w fun e w' => e = .returned (.bool true) ∧ Below w.heap.size w w' := by
  have q1 : ∀ (v u : Value) (w : World), (binOp .eql 103 (.iface 201 v) (.iface 170 u)).run Tryz.prog w = .ok (.bool false) w := fun v u w => by kernel_rfl
  have q3 := jNoIs
  have q4 := jNoUnwrap
  have q5 := jHasUnwraps
  have q6 := jMethodUnwrap
  have H := Lib.hid (eisGone t)
  have HU : Hid (∀ w1, w1 = w → Calls Tryz.prog 217 #[.pointer (some p)] w1 fun e w' => e = .returned (.slice (some q) n c) ∧ w' = w1) := by
    unfold Hid
    rintro w1 rfl
    obtain ⟨pb, po, ps⟩ := p
    cases hp
    go_enter Tryz.func217, Tryz.ntmps217
    go_wp2
    go_ret
    exact ⟨rfl, rfl⟩
  obtain ⟨qb, qo, qs⟩ := q
  cases hqs
  have hni : (0 : Int) < (n : Int) := by omega
  have hqz : w.cell? ⟨qb, qo + 1 * (0 : Int).toNat, none⟩ = some (GErr t) := by simpa using hq
  clear hc
  go_enter Tryz.func132, Tryz.ntmps132
  go_wp2_with fail
  refine wp_loop_rounds 2 ?_
  rw [rounds_succ]
  go_wp2_with (go_at_call 217; refine (HU.out _ rfl).mono ?_; rintro e w' ⟨rfl, rfl⟩)
  refine wp_loop_rounds 2 ?_
  rw [rounds_succ]
  go_wp2_with (go_at_call 132; refine (H.out _).mono ?_; rintro e w' ⟨rfl, hb⟩)
  go_ret
  exact ⟨rfl, hb⟩
/-- What tells that the power went: an error of a step, or a row of errors that begins with one. -/
def Gone (e : Value) (w : World) : Prop := (∃ t, e = GErr t) ∨ ∃ p q n c t, e = .iface 201 (.pointer (some p)) ∧ p.spot = none ∧ 0 < n ∧ n < 100 ∧ w.cell? p = some (.slice (some q) n c) ∧ w.cell? q = some (GErr t) ∧ q.spot = none
theorem isGone (e : Value) (w : World) (h : Gone e w) : Calls Tryz.prog 110 #[e, .iface 170 (.string goneS)] w fun e w' => e = .returned (.bool true) ∧ Below w.heap.size w w' := by
  have hT := typeOfL
  have hM := methodComparable
  have hC := comparableL
  have h1 := @run_callFunc_extern Tryz.prog 131 _ ReflectliteType.typeOf Tryz.func131 (by kernel_rfl) (by kernel_rfl) (by kernel_rfl) (by kernel_rfl)
  have h2 := @run_callFunc_extern Tryz.prog 220 _ (ReflectliteType.method (fun t => do Rtype.noPackHeld "Comparable" t; pure (.bool (← typeInfo t).comparable))) Tryz.func220 (by kernel_rfl) (by kernel_rfl) (by kernel_rfl) (by kernel_rfl)
  have HE : Hid (Calls Tryz.prog 132 #[e, .iface 170 (.string goneS), .bool true] w fun e w' => e = .returned (.bool true) ∧ Below w.heap.size w w') := by
    rcases h with ⟨t, rfl⟩ | ⟨p, q, n, c, t, rfl, hp, hn, hn2, hc, hq, hqs⟩
    · exact eisGone t w
    · exact eisJoin p q n c t w hp hn hn2 hc hq hqs
  have HN : Hid (∃ T v, e = .iface T v) := by
    rcases h with ⟨t, rfl⟩ | ⟨p, q, n, c, t, rfl, _⟩
    · exact ⟨_, _, rfl⟩
    · exact ⟨_, _, rfl⟩
  clear h
  obtain ⟨T, v, hv⟩ := HN.out
  subst hv
  have q1 : ∀ w : World, (binOp .eql 103 (.iface T v) .nilIface).run Tryz.prog w = .ok (.bool false) w := fun w => by rfl
  have q2 : ∀ (u : Value) (w : World), (binOp .eql 103 (.iface 170 u) .nilIface).run Tryz.prog w = .ok (.bool false) w := fun u w => by kernel_rfl
  go_enter Tryz.func110, Tryz.ntmps110
  go_wp2_with (go_at_call 132; refine HE.out.mono ?_; rintro e w' ⟨rfl, hb⟩)
  go_ret
  exact ⟨rfl, hb⟩
section
variable {S : Nat → Prop} {w w' : World} {lb b g cap : Nat} {L : Lg} {D : Dk}
theorem cell_lt {a : Addr} {v : Value} (h : w.cell? a = some v) : a.block < w.heap.size := by
  rcases Nat.lt_or_ge a.block w.heap.size with h1 | h1
  · exact h1
  · simp [World.cell?, Array.getElem?_eq_none h1] at h
theorem Gone.below {e : Value} (h : Gone e w) {B : Nat} (hb : Below B w w') (hB : w.heap.size ≤ B) : Gone e w' := by
  rcases h with ⟨t, rfl⟩ | ⟨p, q, n, c, t, rfl, hp, hn, hn2, hc, hq, hqs⟩
  · exact .inl ⟨t, rfl⟩
  · refine .inr ⟨p, q, n, c, t, rfl, hp, hn, hn2, ?_, ?_, hqs⟩
    · rw [hb.cell]; exact hc
      exact Nat.lt_of_lt_of_le (cell_lt hc) hB
    · rw [hb.cell]; exact hq
      exact Nat.lt_of_lt_of_le (cell_lt hq) hB
/-- told, where the power went: the log is dead. -/
theorem toldGone (h : IsLog w lb b L) (e : Value) (he : Gone e w) : Calls Tryz.prog 86 #[.pointer (some ⟨lb, 0, none⟩), e] w fun e w' => e = .returned (.int .i64 2) ∧ IsLog w' lb b { L with dead := true } ∧ Chg (fun k => k = lb) w w' := by
  have H := Lib.hid (isGone e w he)
  have HL := Lib.hid h
  clear he h
  go_enter Tryz.func86, Tryz.ntmps86
  go_wp2_with fail
  refine H.out.mono ?_
  rintro e w1 ⟨rfl, hb⟩
  have HB := Lib.hid hb
  have h1 := Lib.hid (HL.out.below hb)
  have c5 := h1.out.c5
  have f5 := h1.out.free 5
  clear hb
  go_wp2_with fail
  go_ret
  exact ⟨rfl, h1.out.setDead true, (Chg.of_below _ HB.out).trans (Chg.setCell (fun k => k = lb) _ rfl _)⟩
end
end Go.Proofs.YtilpbjcbffbjeaaGreatDoor
namespace Go.Proofs.YtilpbjcbffbjeaaGreatDoor
set_option linter.unusedVariables false
set_option maxRecDepth 100000
open Go.RowKit
theorem makeE1 (u : World) : (Instr.makeSlice 200 (.int .i64 0) (.int .i64 1)).run Tryz.prog u = .ok (.slice (some ⟨u.heap.size, 0, none⟩) 0 1) (u.alloc (.cells #[.nilIface] 103)) := by kernel_rfl
theorem makeE2 (u : World) : (Instr.makeSlice 200 (.int .i64 0) (.int .i64 2)).run Tryz.prog u = .ok (.slice (some ⟨u.heap.size, 0, none⟩) 0 2) (u.alloc (.cells #[.nilIface, .nilIface] 103)) := by kernel_rfl
set_option maxHeartbeats 1600000 in
theorem eJoinNG (jb : Nat) (t : ByteArray) (w : World) (h0 : w.cell? ⟨jb, 0, none⟩ = some .nilIface) (h1 : w.cell? ⟨jb, 1, none⟩ = some (GErr t)) :
    Calls Tryz.prog 101 #[.slice (some ⟨jb, 0, none⟩) 2 2] w fun e w' => ∃ ev, e = .returned ev ∧ Gone ev w' ∧ Below w.heap.size w w' := by
  have hj : jb < w.heap.size := cell_lt h0
  unfold GErr at h1
  go_enter Tryz.func101, Tryz.ntmps101
  go_wp2_with fail
  refine wp_loop_rounds 3 ?_
  rw [rounds_succ]
  go_wp2_with fail
  rw [rounds_succ]
  go_wp2_with fail
  rw [rounds_succ]
  go_wp2_with fail
  rw [makeE1]
  go_wp2_with fail
  refine wp_loop_rounds 3 ?_
  rw [rounds_succ]
  go_wp2_with fail
  rw [rounds_succ]
  go_wp2_with fail
  rw [rounds_succ]
  go_wp2_with fail
  go_ret
  refine ⟨_, rfl, .inr ⟨⟨w.heap.size + 1, 0, none⟩, ⟨w.heap.size, 0, none⟩, 1, 1, t, rfl, rfl, by omega, by omega, ?_, ?_, rfl⟩, (((Below.refl _ _).alloc (Nat.le_refl _) _).alloc (by simp) _).alloc (by simp; omega) _⟩
  · rw [World.cell?_alloc_lt _ _ ⟨w.heap.size + 1, 0, none⟩ (by simp), World.cell?_alloc_at _ _ _ _ (by simp)]; rfl
  · rw [World.cell?_alloc_lt _ _ ⟨w.heap.size, 0, none⟩ (by simp; omega), World.cell?_alloc_lt _ _ ⟨w.heap.size, 0, none⟩ (by simp), World.cell?_alloc_at _ _ _ _ (by simp)]; rfl
set_option maxHeartbeats 1600000 in
theorem eJoinGG (jb : Nat) (t u : ByteArray) (w : World) (h0 : w.cell? ⟨jb, 0, none⟩ = some (GErr t)) (h1 : w.cell? ⟨jb, 1, none⟩ = some (GErr u)) :
    Calls Tryz.prog 101 #[.slice (some ⟨jb, 0, none⟩) 2 2] w fun e w' => ∃ ev, e = .returned ev ∧ Gone ev w' ∧ Below w.heap.size w w' := by
  have hj : jb < w.heap.size := cell_lt h0
  have hk : ∀ a b c, (((w.alloc a).alloc b).alloc c).cell? ⟨jb, 1, none⟩ = some (GErr u) := fun a b c => by
    rw [World.cell?_alloc_lt _ _ ⟨jb, 1, none⟩ (by simp; omega), World.cell?_alloc_lt _ _ ⟨jb, 1, none⟩ (by simp; omega), World.cell?_alloc_lt _ _ ⟨jb, 1, none⟩ hj]; exact h1
  unfold GErr at h0 h1 hk
  go_enter Tryz.func101, Tryz.ntmps101
  go_wp2_with fail
  refine wp_loop_rounds 3 ?_
  rw [rounds_succ]
  go_wp2_with fail
  rw [rounds_succ]
  go_wp2_with fail
  rw [rounds_succ]
  go_wp2_with fail
  rw [makeE2]
  go_wp2_with fail
  refine wp_loop_rounds 3 ?_
  rw [rounds_succ]
  go_wp2_with fail
  rw [rounds_succ]
  go_wp2_with fail
  rw [rounds_succ]
  go_wp2_with fail
  go_ret
  refine ⟨_, rfl, .inr ⟨⟨w.heap.size + 1, 0, none⟩, ⟨w.heap.size, 0, none⟩, 2, 2, t, rfl, rfl, by omega, by omega, ?_, ?_, rfl⟩, ((((Below.refl _ _).alloc (Nat.le_refl _) _).alloc (by simp) _).alloc (by simp; omega) _).alloc (by simp; omega) _⟩
  · rw [World.cell?_alloc_lt _ _ ⟨w.heap.size + 1, 0, none⟩ (by simp), World.cell?_alloc_lt _ _ ⟨w.heap.size + 1, 0, none⟩ (by simp), World.cell?_alloc_at _ _ _ _ (by simp)]; rfl
  · rw [World.cell?_alloc_lt _ _ ⟨w.heap.size, 0, none⟩ (by simp; omega), World.cell?_alloc_lt _ _ ⟨w.heap.size, 0, none⟩ (by simp; omega), World.cell?_alloc_lt _ _ ⟨w.heap.size, 0, none⟩ (by simp), World.cell?_alloc_at _ _ _ _ (by simp)]; rfl
end Go.Proofs.YtilpbjcbffbjeaaGreatDoor
namespace Go.Proofs.YtilpbjcbffbjeaaGreatDoor
set_option linter.unusedVariables false
set_option maxRecDepth 100000
open Go.RowKit
set_option linter.unusedSectionVars false
variable [Avoid]
section
variable {S : Nat → Prop} {w w' : World} {lb b g cap : Nat} {L : Lg} {D : Dk}
set_option maxHeartbeats 800000 in
theorem writeLGone (h : IsLog w lb b L) (hd : IsDisk w b g cap D) (hok : DOk D) (f n : Nat) (p : ByteArray) (h1 : 1 ≤ n) (h2 : n ≤ 1099511627776) (hp : p.size ≤ 16384)
    (hm : ∀ f, f < D.l.length → (D.l.getD f Fl.zero).ws.length < 1099511627776) (hr : (D.writeX (f : Nat) (recS n p)).2 = 2) :
    Calls Tryz.prog 84 #[.pointer (some ⟨lb, 0, none⟩), .int .i64 (f : Nat), .int .i64 (n : Nat), .string p] w fun e w' => ∃ t, e = .returned (GErr t) ∧ IsDisk w' b g cap (D.writeX (f : Nat) (recS n p)).1 ∧ Chg (fun k => k = b ∨ k = g) w w' := by
  have HR := Lib.hid (recordW n p w h1 h2 hp)
  have HW := Lib.hid (fun (w1 : World) (hb : Below w.heap.size w w1) => writeA (hd.below hb) hok (f : Nat) (recS n p) (by rw [size_recS]; omega) hm)
  rw [hr] at HW
  have HL := Lib.hid h
  clear hd hok hm hr h h1 h2
  go_enter Tryz.func84, Tryz.ntmps84
  go_wp2_with fail
  refine HR.out.mono ?_
  rintro e w1 ⟨rfl, hb⟩
  have c0 := (HL.out.below hb).c0
  have HB := Lib.hid hb
  clear hb
  go_wp2_with fail
  refine (HW.out _ HB.out).mono ?_
  rintro e w2 ⟨rfl, hd2, hc2⟩
  have HD := Lib.hid hd2
  have HC := Lib.hid ((Chg.of_below _ HB.out).trans hc2)
  clear hd2 hc2 c0
  go_wp2_with fail
  refine (stepGone _ (by decide) _).mono ?_
  rintro e w3 ⟨t, rfl, rfl⟩
  go_wp2_with fail
  go_ret
  exact ⟨t, rfl, HD.out, HC.out⟩
set_option maxHeartbeats 800000 in
/-- A log that is dead tells so. -/
theorem appendDead (h : IsLog w lb b L) (s : ByteArray) (hdl : L.dead = true) :
    Calls Tryz.prog 74 #[.pointer (some ⟨lb, 0, none⟩), .string s] w fun e w' => e = .returned (.int .i64 2) ∧ w' = w := by
  have c5 := h.c5
  rw [hdl] at c5
  clear h hdl
  go_enter Tryz.func74, Tryz.ntmps74
  go_wp2_with fail
  go_ret
  exact ⟨rfl, rfl⟩
set_option maxHeartbeats 1600000 in
theorem appendGone (h : IsLog w lb b L) (hd : IsDisk w b g cap D) (hok : DOk D) (s : ByteArray) (hdl : L.dead = false) (hs : s.size ≤ 16384) (hc : L.counts < D.l.length) (hrm : ¬ roomZ (rd (D.l.getD L.counts Fl.zero)).size L.n < (s.size : Int))
    (hm : ∀ f, f < D.l.length → (D.l.getD f Fl.zero).ws.length < 1099511627776) (hr : (D.writeX (L.counts : Nat) (recS (L.n + 1) s)).2 = 2) :
    Calls Tryz.prog 74 #[.pointer (some ⟨lb, 0, none⟩), .string s] w fun e w' => e = .returned (.int .i64 2) ∧ IsLog w' lb b { L with dead := true } ∧ IsDisk w' b g cap (D.writeX (L.counts : Nat) (recS (L.n + 1) s)).1 ∧ Chg (fun k => k = lb ∨ k = b ∨ k = g) w w' := by
  have c5 := h.c5
  have HR := Lib.hid (roomW h hd hok hc)
  have hrg := room_ge hrm
  have HW := Lib.hid (fun (w1 : World) (hb : Below w.heap.size w w1) => writeLGone (h.below hb) (hd.below hb) hok L.counts (L.n + 1) s (by omega) (by omega) hs hm hr)
  have HL := Lib.hid h
  have HD0 := Lib.hid hd
  have hn := hok.n
  rw [hdl] at c5
  obtain ⟨z, hz⟩ : ∃ z, z = roomZ (rd (D.l.getD L.counts Fl.zero)).size L.n := ⟨_, rfl⟩
  rw [← hz] at HR hrm
  clear h hdl hd hok hm hr hz
  go_enter Tryz.func74, Tryz.ntmps74
  go_wp2_with fail
  refine HR.out.mono ?_
  rintro e w1 ⟨rfl, hb⟩
  have HL1 := Lib.hid (HL.out.below hb)
  have HB := Lib.hid hb
  clear hb c5
  go_wp2_with fail
  refine wp_region_U 14 (fun u => u.cell? ⟨lb, 2, none⟩ = some (.int .i64 (L.counts : Nat)) ∧ u.cell? ⟨lb, 4, none⟩ = some (.int .i64 (L.n : Nat))) (by kernel_rfl) ?_
  change wpAnyU _ _ _ _ _ _ 15 (Array.replicate 15 false) _ _
  obtain ⟨w2, hw2⟩ : ∃ w2, w2 = w1.drew := ⟨_, rfl⟩
  rw [← hw2]
  have HL2 : Hid (IsLog w2 lb b L) := by unfold Hid; rw [hw2]; exact HL1.out.below (Below.refl _ _).drew
  have HB2 : Hid (Below w.heap.size w w2) := by unfold Hid; rw [hw2]; exact HB.out.drew
  have HS : Hid (w2.cell? ⟨lb, 2, none⟩ = some (.int .i64 (L.counts : Nat)) ∧ w2.cell? ⟨lb, 4, none⟩ = some (.int .i64 (L.n : Nat))) := ⟨HL2.out.c2, HL2.out.c4⟩
  clear hw2
  refine takeU 0 (v := ?_) rfl (by kernel_rfl) (by kernel_rfl) (fun _ _ _ h => h) rfl (fun u hu => ?_) HS.out ?_
  rotate_left
  · obtain ⟨q2, q4⟩ := hu; go_simp <;> with_reducible rfl
  simp only [Act.put, List.setIfInBounds_toArray, List.set_cons_zero, List.set_cons_succ]
  refine takeU 1 (v := ?_) rfl (by kernel_rfl) (by kernel_rfl) (fun _ _ _ h => h) rfl (fun u hu => ?_) HS.out ?_
  rotate_left
  · obtain ⟨q2, q4⟩ := hu; go_simp <;> with_reducible rfl
  simp only [Act.put, List.setIfInBounds_toArray, List.set_cons_zero, List.set_cons_succ]
  refine takeU 2 (v := ?_) rfl (by kernel_rfl) (by kernel_rfl) (fun _ _ _ h => h) rfl (fun u hu => ?_) HS.out ?_
  rotate_left
  · obtain ⟨q2, q4⟩ := hu; go_simp <;> with_reducible rfl
  simp only [Act.put, List.setIfInBounds_toArray, List.set_cons_zero, List.set_cons_succ]
  refine takeU 3 (v := ?_) rfl (by kernel_rfl) (by kernel_rfl) (fun _ _ _ h => h) rfl (fun u hu => ?_) HS.out ?_
  rotate_left
  · obtain ⟨q2, q4⟩ := hu; go_simp <;> with_reducible rfl
  simp only [Act.put, List.setIfInBounds_toArray, List.set_cons_zero, List.set_cons_succ]
  refine takeU 4 (v := ?_) rfl (by kernel_rfl) (by kernel_rfl) (fun _ _ _ h => h) rfl (fun u hu => ?_) HS.out ?_
  rotate_left
  · obtain ⟨q2, q4⟩ := hu; go_simp <;> with_reducible rfl
  simp only [Act.put, List.setIfInBounds_toArray, List.set_cons_zero, List.set_cons_succ]
  refine takeU 5 (v := ?_) rfl (by kernel_rfl) (by kernel_rfl) (fun _ _ _ h => h) rfl (fun u hu => ?_) HS.out ?_
  rotate_left
  · obtain ⟨q2, q4⟩ := hu; go_simp <;> with_reducible rfl
  simp only [Act.put, List.setIfInBounds_toArray, List.set_cons_zero, List.set_cons_succ]
  refine takeU 6 (v := ?_) rfl (by kernel_rfl) (by kernel_rfl) (fun _ _ _ h => h) rfl (fun u hu => ?_) HS.out ?_
  rotate_left
  · obtain ⟨q2, q4⟩ := hu; go_simp <;> with_reducible rfl
  simp only [Act.put, List.setIfInBounds_toArray, List.set_cons_zero, List.set_cons_succ]
  refine takeU 7 (v := ?_) rfl (by kernel_rfl) (by kernel_rfl) (fun _ _ _ h => h) rfl (fun u hu => ?_) HS.out ?_
  rotate_left
  · obtain ⟨q2, q4⟩ := hu; go_simp <;> with_reducible rfl
  simp only [Act.put, List.setIfInBounds_toArray, List.set_cons_zero, List.set_cons_succ]
  refine takeU 8 (v := ?_) rfl (by kernel_rfl) (by kernel_rfl) (fun _ _ _ h => h) rfl (fun u hu => ?_) HS.out ?_
  rotate_left
  · obtain ⟨q2, q4⟩ := hu; go_simp <;> with_reducible rfl
  simp only [Act.put, List.setIfInBounds_toArray, List.set_cons_zero, List.set_cons_succ]
  refine takeU 9 (v := ?_) rfl (by kernel_rfl) (by kernel_rfl) (fun _ _ _ h => h) rfl (fun u hu => ?_) HS.out ?_
  rotate_left
  · obtain ⟨q2, q4⟩ := hu; go_simp <;> with_reducible rfl
  simp only [Act.put, List.setIfInBounds_toArray, List.set_cons_zero, List.set_cons_succ]
  refine takeU 10 (v := ?_) rfl (by kernel_rfl) (by kernel_rfl) (fun _ _ _ h => h) rfl (fun u hu => ?_) HS.out ?_
  rotate_left
  · obtain ⟨q2, q4⟩ := hu; go_simp <;> with_reducible rfl
  simp only [Act.put, List.setIfInBounds_toArray, List.set_cons_zero, List.set_cons_succ]
  refine takeU 11 (v := ?_) rfl (by kernel_rfl) (by kernel_rfl) (fun _ _ _ h => h) rfl (fun u hu => ?_) HS.out ?_
  rotate_left
  · obtain ⟨q2, q4⟩ := hu; go_simp <;> with_reducible rfl
  simp only [Act.put, List.setIfInBounds_toArray, List.set_cons_zero, List.set_cons_succ]
  refine oneU 12 (by kernel_rfl) ?_
  refine callU 12 rfl (by kernel_rfl) rfl 84 _ _ rfl #[.pointer (some ⟨lb, 0, none⟩), .int .i64 (L.counts : Nat), .int .i64 ((L.n + 1 : Nat) : Int), .string s] (by simp [Act.eval]; exact IntWalk.i64_in _ (by omega)) (enters_of Tryz.func84 (by kernel_rfl) rfl) (fun v w' => (∃ t, v = GErr t) ∧ Hid (IsDisk w' b g cap (D.writeX (L.counts : Nat) (recS (L.n + 1) s)).1 ∧ Chg (fun k => k = b ∨ k = g) w2 w')) ((HW.out _ HB2.out).mono fun e w' ⟨t, h1, h2, h3⟩ => ⟨_, h1, ⟨t, rfl⟩, h2, h3⟩) ?_
  rintro v w3 ⟨⟨t, rfl⟩, hK⟩
  have HD3 := Lib.hid hK.out.1
  have HC3 := Lib.hid ((Chg.of_below (fun k => k = b ∨ k = g) HB2.out).trans hK.out.2)
  have HL3 := Lib.hid (HL.out.keep HC3.out (fun e => by have := HL.out.ne HD0.out; omega))
  refine ⟨⟨HL3.out.c2, HL3.out.c4⟩, ?_⟩
  simp only [Act.put, List.setIfInBounds_toArray, List.set_cons_zero, List.set_cons_succ]
  refine oneU 13 (by kernel_rfl) ?_
  refine callU 13 rfl (by kernel_rfl) rfl 86 _ _ rfl #[.pointer (some ⟨lb, 0, none⟩), GErr t] (by simp [Act.eval]) (enters_of Tryz.func86 (by kernel_rfl) rfl) (fun v w' => v = .int .i64 2 ∧ Hid (IsLog w' lb b { L with dead := true } ∧ Chg (fun k => k = lb) w3 w')) ((toldGone HL3.out _ (.inl ⟨t, rfl⟩)).mono fun e w' ⟨h1, h2, h3⟩ => ⟨_, h1, rfl, h2, h3⟩) ?_
  rintro v w5 ⟨rfl, hK⟩
  have HL5 := Lib.hid hK.out.1
  have HC5 := Lib.hid hK.out.2
  refine ⟨⟨HL5.out.c2, HL5.out.c4⟩, ?_⟩
  simp only [Act.put, List.setIfInBounds_toArray, List.set_cons_zero, List.set_cons_succ]
  refine oneU 14 (by kernel_rfl) ?_
  refine endU (v := ?_) 14 rfl (by kernel_rfl) (by kernel_rfl) rfl ?_ ?_
  rotate_left
  · go_simp <;> with_reducible rfl
  simp only [Act.put, List.setIfInBounds_toArray, List.set_cons_zero, List.set_cons_succ]
  clear HS HW HL2 HL1
  go_wp2_with fail
  go_ret
  exact ⟨rfl, HL5.out, HD3.out.log HL3.out HC5.out, (HC3.out.mono (fun k _ h => .inr h)).trans (HC5.out.mono (fun k _ h => .inl h))⟩
set_option maxHeartbeats 1600000 in
theorem syncLGone (h : IsLog w lb b L) (hd : IsDisk w b g cap D) (hok : DOk D) (hdl : L.dead = false) (hr : (D.syncX (L.counts : Nat)).2 = 2) :
    Calls Tryz.prog 76 #[.pointer (some ⟨lb, 0, none⟩)] w fun e w' => e = .returned (.int .i64 2) ∧ IsLog w' lb b { L with dead := true } ∧ IsDisk w' b g cap (D.syncX (L.counts : Nat)).1 ∧ Chg (fun k => k = lb ∨ k = b ∨ k = g) w w' := by
  have c5 := h.c5
  rw [hdl] at c5
  have HW := Lib.hid (fun (w1 : World) (hb : Below w.heap.size w w1) => syncA (hd.below hb) hok (L.counts : Nat))
  rw [hr] at HW
  have HL := Lib.hid h
  have HD0 := Lib.hid hd
  clear h hd hok hdl hr
  go_enter Tryz.func76, Tryz.ntmps76
  go_wp2_with fail
  refine wp_region_U 12 (fun u => u.cell? ⟨lb, 0, none⟩ = some (.pointer (some ⟨b, 0, none⟩)) ∧ u.cell? ⟨lb, 2, none⟩ = some (.int .i64 (L.counts : Nat))) (by kernel_rfl) ?_
  change wpAnyU _ _ _ _ _ _ 13 (Array.replicate 13 false) _ _
  obtain ⟨w2, hw2⟩ : ∃ w2, w2 = w.drew := ⟨_, rfl⟩
  rw [← hw2]
  have HL2 : Hid (IsLog w2 lb b L) := by unfold Hid; rw [hw2]; exact HL.out.below (Below.refl _ _).drew
  have HB2 : Hid (Below w.heap.size w w2) := by unfold Hid; rw [hw2]; exact (Below.refl _ _).drew
  clear hw2 c5
  have HS : Hid (w2.cell? ⟨lb, 0, none⟩ = some (.pointer (some ⟨b, 0, none⟩)) ∧ w2.cell? ⟨lb, 2, none⟩ = some (.int .i64 (L.counts : Nat))) := ⟨HL2.out.c0, HL2.out.c2⟩
  refine takeU 0 (v := ?_) rfl (by kernel_rfl) (by kernel_rfl) (fun _ _ _ h => h) rfl (fun u hu => ?_) HS.out ?_
  rotate_left
  · obtain ⟨q2, q4⟩ := hu; go_simp <;> with_reducible rfl
  simp only [Act.put, List.setIfInBounds_toArray, List.set_cons_zero, List.set_cons_succ]
  refine takeU 1 (v := ?_) rfl (by kernel_rfl) (by kernel_rfl) (fun _ _ _ h => h) rfl (fun u hu => ?_) HS.out ?_
  rotate_left
  · obtain ⟨q2, q4⟩ := hu; go_simp <;> with_reducible rfl
  simp only [Act.put, List.setIfInBounds_toArray, List.set_cons_zero, List.set_cons_succ]
  refine takeU 2 (v := ?_) rfl (by kernel_rfl) (by kernel_rfl) (fun _ _ _ h => h) rfl (fun u hu => ?_) HS.out ?_
  rotate_left
  · obtain ⟨q2, q4⟩ := hu; go_simp <;> with_reducible rfl
  simp only [Act.put, List.setIfInBounds_toArray, List.set_cons_zero, List.set_cons_succ]
  refine takeU 3 (v := ?_) rfl (by kernel_rfl) (by kernel_rfl) (fun _ _ _ h => h) rfl (fun u hu => ?_) HS.out ?_
  rotate_left
  · obtain ⟨q2, q4⟩ := hu; go_simp <;> with_reducible rfl
  simp only [Act.put, List.setIfInBounds_toArray, List.set_cons_zero, List.set_cons_succ]
  refine takeU 4 (v := ?_) rfl (by kernel_rfl) (by kernel_rfl) (fun _ _ _ h => h) rfl (fun u hu => ?_) HS.out ?_
  rotate_left
  · obtain ⟨q2, q4⟩ := hu; go_simp <;> with_reducible rfl
  simp only [Act.put, List.setIfInBounds_toArray, List.set_cons_zero, List.set_cons_succ]
  refine takeU 5 (v := ?_) rfl (by kernel_rfl) (by kernel_rfl) (fun _ _ _ h => h) rfl (fun u hu => ?_) HS.out ?_
  rotate_left
  · obtain ⟨q2, q4⟩ := hu; go_simp <;> with_reducible rfl
  simp only [Act.put, List.setIfInBounds_toArray, List.set_cons_zero, List.set_cons_succ]
  refine takeU 6 (v := ?_) rfl (by kernel_rfl) (by kernel_rfl) (fun _ _ _ h => h) rfl (fun u hu => ?_) HS.out ?_
  rotate_left
  · obtain ⟨q2, q4⟩ := hu; go_simp <;> with_reducible rfl
  simp only [Act.put, List.setIfInBounds_toArray, List.set_cons_zero, List.set_cons_succ]
  refine takeU 7 (v := ?_) rfl (by kernel_rfl) (by kernel_rfl) (fun _ _ _ h => h) rfl (fun u hu => ?_) HS.out ?_
  rotate_left
  · obtain ⟨q2, q4⟩ := hu; go_simp <;> with_reducible rfl
  simp only [Act.put, List.setIfInBounds_toArray, List.set_cons_zero, List.set_cons_succ]
  refine takeU 8 (v := ?_) rfl (by kernel_rfl) (by kernel_rfl) (fun _ _ _ h => h) rfl (fun u hu => ?_) HS.out ?_
  rotate_left
  · obtain ⟨q2, q4⟩ := hu; go_simp <;> with_reducible rfl
  simp only [Act.put, List.setIfInBounds_toArray, List.set_cons_zero, List.set_cons_succ]
  refine oneU 9 (by kernel_rfl) ?_
  refine callU 9 rfl (by kernel_rfl) rfl 53 _ _ rfl #[.pointer (some ⟨b, 0, none⟩), .int .i64 (L.counts : Nat)] (by simp [Act.eval]) (enters_of Tryz.func53 (by kernel_rfl) rfl) (fun v w' => v = .int .i64 2 ∧ Hid (IsDisk w' b g cap (D.syncX (L.counts : Nat)).1 ∧ Chg (fun k => k = b ∨ k = g) w2 w')) ((HW.out _ HB2.out).mono fun e w' ⟨h1, h2, h3⟩ => ⟨_, h1, rfl, h2, h3⟩) ?_
  rintro v w3 ⟨rfl, hK⟩
  have HD3 := Lib.hid hK.out.1
  have HC3 := Lib.hid ((Chg.of_below (fun k => k = b ∨ k = g) HB2.out).trans hK.out.2)
  have HL3 := Lib.hid (HL.out.keep HC3.out (fun e => by have := HL.out.ne HD0.out; omega))
  refine ⟨⟨HL3.out.c0, HL3.out.c2⟩, ?_⟩
  simp only [Act.put, List.setIfInBounds_toArray, List.set_cons_zero, List.set_cons_succ]
  refine oneU 10 (by kernel_rfl) ?_
  refine callU 10 rfl (by kernel_rfl) rfl 85 _ _ rfl #[.string ⟨#[97, 32, 115, 121, 110, 99]⟩, .int .i64 2] (by simp [Act.eval]) (enters_of Tryz.func85 (by kernel_rfl) rfl) (fun v w' => (∃ t, v = GErr t) ∧ w' = w3) ((stepGone _ (by decide) w3).mono fun e w' ⟨t, h1, h2⟩ => ⟨_, h1, ⟨t, rfl⟩, h2⟩) ?_
  rintro v w4 ⟨⟨t, rfl⟩, rfl⟩
  refine ⟨⟨HL3.out.c0, HL3.out.c2⟩, ?_⟩
  simp only [Act.put, List.setIfInBounds_toArray, List.set_cons_zero, List.set_cons_succ]
  refine oneU 11 (by kernel_rfl) ?_
  refine callU 11 rfl (by kernel_rfl) rfl 86 _ _ rfl #[.pointer (some ⟨lb, 0, none⟩), GErr t] (by simp [Act.eval]) (enters_of Tryz.func86 (by kernel_rfl) rfl) (fun v w' => v = .int .i64 2 ∧ Hid (IsLog w' lb b { L with dead := true } ∧ Chg (fun k => k = lb) w4 w')) ((toldGone HL3.out _ (.inl ⟨t, rfl⟩)).mono fun e w' ⟨h1, h2, h3⟩ => ⟨_, h1, rfl, h2, h3⟩) ?_
  rintro v w5 ⟨rfl, hK⟩
  have HL5 := Lib.hid hK.out.1
  have HC5 := Lib.hid hK.out.2
  refine ⟨⟨HL5.out.c0, HL5.out.c2⟩, ?_⟩
  simp only [Act.put, List.setIfInBounds_toArray, List.set_cons_zero, List.set_cons_succ]
  refine oneU 12 (by kernel_rfl) ?_
  refine endU (v := ?_) 12 rfl (by kernel_rfl) (by kernel_rfl) rfl ?_ ?_
  rotate_left
  · go_simp <;> with_reducible rfl
  simp only [Act.put, List.setIfInBounds_toArray, List.set_cons_zero, List.set_cons_succ]
  go_wp2_with fail
  go_ret
  exact ⟨rfl, HL5.out, HD3.out.log HL3.out HC5.out, (HC3.out.mono (fun k _ h => .inr h)).trans (HC5.out.mono (fun k _ h => .inl h))⟩
end
end Go.Proofs.YtilpbjcbffbjeaaGreatDoor
