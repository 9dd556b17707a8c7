/- The store's opens, whether the power goes or not.
   The store's Open, whether the power goes or not; a commit; what is at rest. -/
import Derived.Test.YtilpbjcbffbjeaaGreatDoorSFound
import Derived.Test.YtilpbjcbffbjeaaGreatDoorPkS
namespace Go.Proofs.YtilpbjcbffbjeaaGreatDoor
set_option linter.unusedVariables false
set_option maxRecDepth 100000
open Go.RowKit
set_option linter.unusedSectionVars false
variable [Avoid]
/-- A store that is being opened: the tenants below k are; the power may be about to go. -/
structure StQ (B : Nat) (w0 : World) (b g cap sb ten k : Nat) (D : Dk) (M : Nat) (lb : Nat → Nat) (L : Nat → Lg) (n0 : Nat → Nat) (tx0 : Nat → ByteArray) (w : World) : Prop where
  on : At B w0 b g cap D w
  st : IsSt w sb ten (fun i => if 1 ≤ i ∧ i ≤ k then some (lb i) else none) (fun i => if 1 ≤ i ∧ i ≤ k then n0 i else 0) (fun i => if 1 ≤ i ∧ i ≤ k then tx0 i else ⟨#[]⟩) false
  sB : B ≤ sb
  lg : ∀ i, 1 ≤ i → i ≤ k → IsLog w (lb i) b (L i) ∧ B ≤ lb i ∧ sb < lb i
  inj : ∀ i j, 1 ≤ i → i < j → j ≤ k → lb i < lb j
  ok : DOk D
  al : D.dead = false
  few : FewS D
  kp : ∀ i, 1 ≤ i → i ≤ k → Kp D.l M (fiS i) (moS i) (L i) (n0 i) (tx0 i)
  rs : ∀ i, i ≤ ten → (i = 0 ∨ k < i) → Rs D.l M (fiS i) (moS i) (n0 i) (tx0 i)
section
variable {B b g cap sb ten k M : Nat} {w0 w w' : World} {D : Dk} {lb : Nat → Nat} {L : Nat → Lg} {n0 : Nat → Nat} {tx0 : Nat → ByteArray}
theorem StQ.grow (h : StQ B w0 b g cap sb ten k D M lb L n0 tx0 w) (hb : Below w.heap.size w w') : StQ B w0 b g cap sb ten k D M lb L n0 tx0 w' :=
  ⟨h.on.grow hb, h.st.below hb, h.sB, fun i h1 h2 => ⟨(h.lg i h1 h2).1.below hb, (h.lg i h1 h2).2⟩, h.inj, h.ok, h.al, h.few, h.kp, h.rs⟩
/-- One tenant more is open. -/
theorem StQ.next (h : StQ B w0 b g cap sb ten k D M lb L n0 tx0 w) (hk : k < ten) (h8 : ten ≤ 8) {D' : Dk} {lb' : Nat} {L' : Lg} {w2 : World} (hat : LAt B w0 b g cap lb' D' L' w2) (hc : Chg (fun k => k = b ∨ k = g) w w2) (hlb : w.heap.size ≤ lb')
    (ha : Alive D D' (fiS (k + 1))) (hkp : Kp D'.l M (fiS (k + 1)) (moS (k + 1)) L' (n0 (k + 1)) (tx0 (k + 1))) :
    StQ B w0 b g cap sb ten (k + 1) D' M (upd lb (k + 1) lb') (upd L (k + 1) L') n0 tx0 (((w2.setCell ⟨sb, 4 + k * 3, none⟩ (lpV (some lb'))).setCell ⟨sb, 4 + k * 3 + 1, none⟩ (.int .i64 (n0 (k + 1) : Nat))).setCell ⟨sb, 4 + k * 3 + 2, none⟩ (.string (tx0 (k + 1)))) := by
  have hne0 := h.st.ne h.on.disk
  have hst2 := h.st.keep hc (by omega)
  have hne := hst2.ne hat.on.disk
  have hsblt := h.st.lt
  have hcs : Chg (fun k => k = sb) w2 (((w2.setCell ⟨sb, 4 + k * 3, none⟩ (lpV (some lb'))).setCell ⟨sb, 4 + k * 3 + 1, none⟩ (.int .i64 (n0 (k + 1) : Nat))).setCell ⟨sb, 4 + k * 3 + 2, none⟩ (.string (tx0 (k + 1)))) :=
    ((Chg.setCell (fun k => k = sb) w2 rfl _).trans (Chg.setCell (fun k => k = sb) _ rfl _)).trans (Chg.setCell (fun k => k = sb) _ rfl _)
  have hBw : B ≤ w2.heap.size := Nat.le_trans hat.on.le hat.on.below.size
  have hst3 := hst2.gsetK (t := k) (by omega) (some lb') (n0 (k + 1)) (tx0 (k + 1))
  rw [upd_step, upd_step, upd_step, upd_id, upd_id] at hst3
  refine ⟨⟨hat.on.disk.keep hcs (fun e => hne.1 e.symm) (fun e => hne.2 e.symm) hst2.muts, hat.on.below.trans (hcs.below hBw (fun j hj e => by have := h.sB; omega)), hat.on.bB, hat.on.gB, hat.on.le⟩, ?_, h.sB, ?_, ?_, ha.ok, ha.al, hkp.fewS h.few ha, ?_, ?_⟩
  · rw [show (fun i => if 1 ≤ i ∧ i ≤ k + 1 then some (upd lb (k + 1) lb' i) else none) = fun i => if 1 ≤ i ∧ i ≤ k + 1 then upd (fun i => some (lb i)) (k + 1) (some lb') i else none by
      funext i
      unfold upd
      by_cases e : i = k + 1
      · rw [if_pos e, if_pos e]
      · rw [if_neg e, if_neg e]]
    exact hst3
  · intro i i1 i2
    by_cases e : i = k + 1
    · subst e
      rw [upd_same, upd_same]
      exact ⟨hat.log.keep hcs (fun e => by omega), hat.lB, by omega⟩
    · rw [upd_other _ _ e, upd_other _ _ e]
      obtain ⟨q1, q2, q3⟩ := h.lg i i1 (by omega)
      have h9 := q1.keep hc (by have := q1.ne h.on.disk; omega)
      exact ⟨h9.keep hcs (fun e => by omega), q2, q3⟩
  · intro i j i1 ij j1
    by_cases e : j = k + 1
    · subst e
      rw [upd_same, upd_other _ _ (by omega)]
      have := (h.lg i i1 (by omega)).1.lt
      omega
    · rw [upd_other _ _ e, upd_other _ _ (by omega)]
      exact h.inj i j i1 ij (by omega)
  · intro i i1 i2
    by_cases e : i = k + 1
    · subst e
      rw [upd_same]
      exact hkp
    · rw [upd_other _ _ e]
      obtain ⟨f1, f2, f3⟩ := fiS_far e
      exact (h.kp i i1 (by omega)).alive ha f1 f2 f3
  · intro i i1 i2
    have e : i ≠ k + 1 := by omega
    obtain ⟨f1, f2, f3⟩ := fiS_far e
    exact (h.rs i i1 (by omega)).alive ha f1 f2 f3
end
section
variable {B b g cap sb ten M : Nat} {w0 w w' : World} {D : Dk} {lb : Nat → Nat} {L : Nat → Lg} {n0 : Nat → Nat} {tx0 : Nat → ByteArray}
theorem StQ.full (h : StQ B w0 b g cap sb ten ten D M lb L n0 tx0 w) (h8 : ten ≤ 8) (hz : ∀ i, ten < i → n0 i = 0 ∧ tx0 i = ⟨#[]⟩) {D' : Dk} {lb' : Nat} {L' : Lg} {w2 : World} (hat : LAt B w0 b g cap lb' D' L' w2) (hc : Chg (fun k => k = b ∨ k = g) w w2) (hlb : w.heap.size ≤ lb')
    (ha : Alive D D' 0) (hkp : Kp D'.l M 0 0 L' (n0 0) (tx0 0)) :
    StA B w0 b g cap sb ten D' M (upd lb 0 lb') (upd L 0 L') n0 tx0 (((w2.setCell ⟨sb, 1, none⟩ (lpV (some lb'))).setCell ⟨sb, 2, none⟩ (.int .i64 (n0 0 : Nat))).setCell ⟨sb, 3, none⟩ (.string (tx0 0))) := by
  have hne0 := h.st.ne h.on.disk
  have hst2 := h.st.keep hc (by omega)
  have hne := hst2.ne hat.on.disk
  have hsblt := h.st.lt
  have hcs : Chg (fun k => k = sb) w2 (((w2.setCell ⟨sb, 1, none⟩ (lpV (some lb'))).setCell ⟨sb, 2, none⟩ (.int .i64 (n0 0 : Nat))).setCell ⟨sb, 3, none⟩ (.string (tx0 0))) :=
    ((Chg.setCell (fun k => k = sb) w2 rfl _).trans (Chg.setCell (fun k => k = sb) _ rfl _)).trans (Chg.setCell (fun k => k = sb) _ rfl _)
  have hBw : B ≤ w2.heap.size := Nat.le_trans hat.on.le hat.on.below.size
  have hst3 := hst2.setK (i := 0) (by omega) (some lb') (n0 0) (tx0 0)
  refine ⟨⟨hat.on.disk.keep hcs (fun e => hne.1 e.symm) (fun e => hne.2 e.symm) hst2.muts, hat.on.below.trans (hcs.below hBw (fun j hj e => by have := h.sB; omega)), hat.on.bB, hat.on.gB, hat.on.le⟩, ?_, h.sB, ?_, ?_, h8, ha.ok, ha.al, hkp.fewS h.few ha, ?_⟩
  · rw [show (upd (fun i => if 1 ≤ i ∧ i ≤ ten then some (lb i) else none) 0 (some lb')) = lpS ten (upd lb 0 lb') by
        funext i
        unfold upd lpS
        by_cases e : i = 0
        · subst e; rw [if_pos rfl, if_pos (Nat.zero_le _)]; rfl
        · rw [if_neg e]
          show (if 1 ≤ i ∧ i ≤ ten then some (lb i) else none) = if i ≤ ten then some (if i = 0 then lb' else lb i) else none
          rw [if_neg e]
          by_cases e2 : i ≤ ten
          · rw [if_pos (by omega), if_pos e2]
          · rw [if_neg (by omega), if_neg e2],
      show (upd (fun i => if 1 ≤ i ∧ i ≤ ten then n0 i else 0) 0 (n0 0)) = n0 by
        funext i
        unfold upd
        by_cases e : i = 0
        · subst e; rw [if_pos rfl]
        · rw [if_neg e]
          show (if 1 ≤ i ∧ i ≤ ten then n0 i else 0) = n0 i
          by_cases e2 : i ≤ ten
          · rw [if_pos (by omega)]
          · rw [if_neg (by omega), (hz i (by omega)).1],
      show (upd (fun i => if 1 ≤ i ∧ i ≤ ten then tx0 i else (⟨#[]⟩ : ByteArray)) 0 (tx0 0)) = tx0 by
        funext i
        unfold upd
        by_cases e : i = 0
        · subst e; rw [if_pos rfl]
        · rw [if_neg e]
          show (if 1 ≤ i ∧ i ≤ ten then tx0 i else (⟨#[]⟩ : ByteArray)) = tx0 i
          by_cases e2 : i ≤ ten
          · rw [if_pos (by omega)]
          · rw [if_neg (by omega), (hz i (by omega)).2]] at hst3
    exact hst3
  · intro i i2
    by_cases e : i = 0
    · subst e
      rw [upd_same, upd_same]
      exact ⟨hat.log.keep hcs (fun e => by omega), hat.lB⟩
    · rw [upd_other _ _ e, upd_other _ _ e]
      obtain ⟨q1, q2, q3⟩ := h.lg i (by omega) i2
      have h9 := q1.keep hc (by have := q1.ne h.on.disk; omega)
      exact ⟨h9.keep hcs (fun e => by omega), q2⟩
  · intro i j i1 j1 ij
    by_cases e : i = 0
    · subst e
      rw [upd_same, upd_other _ _ (Ne.symm ij)]
      have := (h.lg j (by omega) j1).1.lt
      omega
    · rw [upd_other _ _ e]
      by_cases e2 : j = 0
      · subst e2
        rw [upd_same]
        have := (h.lg i (by omega) i1).1.lt
        omega
      · rw [upd_other _ _ e2]
        rcases Nat.lt_or_gt_of_ne ij with q | q
        · have := h.inj i j (by omega) q j1; omega
        · have := h.inj j i (by omega) q i1; omega
  · intro i i2
    by_cases e : i = 0
    · subst e
      rw [upd_same]
      exact hkp
    · rw [upd_other _ _ e]
      obtain ⟨f1, f2, f3⟩ := fiS_far e
      exact (h.kp i (by omega) i2).alive ha f1 f2 f3
end
theorem FewS.gone {D D' : Dk} {M f most n : Nat} {tx : ByteArray} (hg : GoneD D D' f) (hr : Rs D'.l M f most n tx) : FewS D' := by
  intro j hj
  obtain ⟨snap, ps, h⟩ := hr
  obtain ⟨c, o, gen, hr⟩ := h.rest
  obtain ⟨e0, e1⟩ := hr.wss
  by_cases h0 : j = f
  · rw [h0, e0]; exact Nat.zero_le _
  by_cases h1 : j = f + 1
  · rw [h1, e1]; exact Nat.zero_le _
  obtain ⟨cs, e⟩ := hg.other j h0 h1 (by rw [← hg.len]; exact hj)
  rw [e]; exact Nat.zero_le _
/-- All logs at rest. -/
def RsA (l : List Fl) (M ten : Nat) (n : Nat → Nat) (tx : Nat → ByteArray) : Prop := ∀ i, i ≤ ten → Rs l M (fiS i) (moS i) (n i) (tx i)
section
variable {B b g cap sb ten k M M' : Nat} {w0 w w' : World} {D D' : Dk} {lb : Nat → Nat} {L : Nat → Lg} {n0 : Nat → Nat} {tx0 : Nat → ByteArray}
theorem StQ.gone (h : StQ B w0 b g cap sb ten k D M lb L n0 tx0 w) {j : Nat} (hj : j = 0 ∨ k < j) (hg : GoneD D D' (fiS j)) (hr : Rs D'.l M (fiS j) (moS j) (n0 j) (tx0 j)) : RsA D'.l M ten n0 tx0 := by
  intro i hi
  by_cases e : i = j
  · rw [e]; exact hr
  · obtain ⟨f1, f2, f3⟩ := fiS_far e
    by_cases h1 : 1 ≤ i ∧ i ≤ k
    · exact (h.kp i h1.1 h1.2).rest.gone hg f1 f2 f3
    · exact (h.rs i hi (by omega)).gone hg f1 f2 f3
theorem StA.gone (h : StA B w0 b g cap sb ten D M lb L n0 tx0 w) {j : Nat} (hg : GoneD D D' (fiS j)) {y : Nat} {u : ByteArray} (hM : M ≤ M') (hr : Rs D'.l M' (fiS j) (moS j) y u) : RsA D'.l M' ten (upd n0 j y) (upd tx0 j u) := by
  intro i hi
  by_cases e : i = j
  · rw [e, upd_same, upd_same]; exact hr
  · rw [upd_other _ _ e, upd_other _ _ e]
    obtain ⟨f1, f2, f3⟩ := fiS_far e
    exact ((h.kp i hi).rest.gone hg f1 f2 f3).mono hM
theorem StA.rests (h : StA B w0 b g cap sb ten D M lb L n0 tx0 w) : RsA D.l M ten n0 tx0 := fun i hi => (h.kp i hi).rest
theorem RsA.mono {l : List Fl} (h : RsA l M ten n0 tx0) (hM : M ≤ M') : RsA l M' ten n0 tx0 := fun i hi => (h i hi).mono hM
theorem RsA.died {l l' : List Fl} (h : RsA l M ten n0 tx0) (hd : Died l l') : RsA l' M ten n0 tx0 := fun i hi => (h i hi).died hd
theorem At.overS {lp : Nat → Option Nat} {n : Nat → Nat} {tx : Nat → ByteArray} {dd : Bool} (h : At B w0 b g cap D w) (hst : IsSt w sb ten lp n tx dd) (hsB : B ≤ sb) (hc : Chg (fun k => k = sb) w w') : At B w0 b g cap D w' := by
  have hne := hst.ne h.disk
  exact ⟨h.disk.keep hc (fun e => hne.1 e.symm) (fun e => hne.2 e.symm) hst.muts, h.below.trans (hc.below (Nat.le_trans h.le h.below.size) (fun j hj e => by omega)), h.bB, h.gB, h.le⟩
theorem chgS3 (w : World) (sb j : Nat) (x y z : Value) : Chg (fun k => k = sb) w (((w.setCell ⟨sb, j, none⟩ x).setCell ⟨sb, j + 1, none⟩ y).setCell ⟨sb, j + 2, none⟩ z) :=
  ((Chg.setCell (fun k => k = sb) w rfl _).trans (Chg.setCell (fun k => k = sb) _ rfl _)).trans (Chg.setCell (fun k => k = sb) _ rfl _)
end
theorem digits8 {k : Nat} (h : k < 8) : (⟨(Lib.decDigits k).toArray⟩ : ByteArray).size ≤ 8 := by
  rcases (by omega : k = 0 ∨ k = 1 ∨ k = 2 ∨ k = 3 ∨ k = 4 ∨ k = 5 ∨ k = 6 ∨ k = 7) with rfl | rfl | rfl | rfl | rfl | rfl | rfl | rfl <;> exact of_decide_eq_true (by kernel_rfl)
/-- An error that the power's going is told by. -/
def GoneE (v : Value) : Prop := (∃ s, v = sErr s 2) ∨ ∃ s s2, v = sErr2 s s2 2
/-- What is left where the power went in the opening: the epoch's number may have gone up by one. -/
structure OpGone (B : Nat) (w0 : World) (b g cap ten : Nat) (D D' : Dk) (M : Nat) (n0 : Nat → Nat) (tx0 : Nat → ByteArray) (w : World) : Prop where
  on : At B w0 b g cap D' w
  ok : DOk D'
  dd : D'.dead = true
  ar : D.armed ≠ 0
  len : D'.l.length = D.l.length
  few : FewS D'
  rs : ∃ y u, (y = n0 0 ∨ y = n0 0 + 1) ∧ RsA D'.l (M + 1) ten (upd n0 0 y) (upd tx0 0 u)
theorem RsA.self {l : List Fl} {M ten : Nat} {n0 : Nat → Nat} {tx0 : Nat → ByteArray} (h : RsA l M ten n0 tx0) : RsA l (M + 1) ten (upd n0 0 (n0 0)) (upd tx0 0 (tx0 0)) := by
  rw [upd_id, upd_id]
  exact h.mono (Nat.le_succ _)
theorem chgB {S : Nat → Prop} {w w1 w2 : World} (h : Chg S w w1) (h2 : Below w1.heap.size w1 w2) : Chg S w w2 := h.trans (Chg.of_below S h2)
set_option maxHeartbeats 6400000 in
theorem sopensX {B b g cap sb ten M : Nat} {w0 w : World} {D : Dk} {n0 : Nat → Nat} {tx0 : Nat → ByteArray} (h : At B w0 b g cap D w) (hst : IsSt w sb ten (fun _ => none) (fun _ => 0) (fun _ => ⟨#[]⟩) false) (hsB : B ≤ sb) (h1 : 1 ≤ ten) (h8 : ten ≤ 8)
    (hok : DOk D) (al : D.dead = false) (few : FewS D) (hM : M < 1099511627776) (hrs : RsA D.l M ten n0 tx0) (he : n0 0 < 1099511627776) (hz : ∀ i, ten < i → n0 i = 0 ∧ tx0 i = ⟨#[]⟩) :
    Calls Tryz.prog 65 #[.pointer (some ⟨sb, 0, none⟩), .pointer (some ⟨b, 0, none⟩)] w fun e w' => ∃ D', Chg (fun j => j = b ∨ j = g ∨ j = sb) w w' ∧ ((e = .returned .nilIface ∧ ∃ lb L, StA B w0 b g cap sb ten D' (M + 1) lb L (upd n0 0 (n0 0 + 1)) (upd tx0 0 ⟨#[]⟩) w' ∧ (D.armed = 0 → D'.armed = 0) ∧ LenO ten D.l D'.l) ∨ (∃ v, e = .returned v ∧ GoneE v ∧ OpGone B w0 b g cap ten D D' M n0 tx0 w')) := by
  have c0 := hst.c0
  have HP0 : Hid (StQ B w0 b g cap sb ten 0 D M (fun _ => 0) (fun _ => ⟨0, 0, 0, 0, false⟩) n0 tx0 w) := by
    refine ⟨h, ?_, hsB, fun i a b => by omega, fun i j a b c => by omega, hok, al, few, fun i a b => by omega, fun i a _ => hrs i a⟩
    rw [show (fun i => if 1 ≤ i ∧ i ≤ 0 then some 0 else none) = fun _ => (none : Option Nat) by funext i; rw [if_neg (by omega)], show (fun i => if 1 ≤ i ∧ i ≤ 0 then n0 i else 0) = fun _ => 0 by funext i; rw [if_neg (by omega)], show (fun i => if 1 ≤ i ∧ i ≤ 0 then tx0 i else (⟨#[]⟩ : ByteArray)) = fun _ => ⟨#[]⟩ by funext i; rw [if_neg (by omega)]]
    exact hst
  have HHE := Lib.hid he
  have HZZ := Lib.hid hz
  clear h hst hsB hok al few hrs he hz
  go_enter Tryz.func65, Tryz.ntmps65
  go_wp2_with fail
  clear c0
  go_loopw [4, 10] (fun v4 v10 wr => ∃ (k : Nat) (D1 : Dk) (lb : Nat → Nat) (L : Nat → Lg), v10 = .int .i64 (k : Nat) ∧ v4 = .nilIface ∧ k ≤ ten ∧ StQ B w0 b g cap sb ten k D1 M lb L n0 tx0 wr ∧ LenO ten D.l D1.l ∧ (D.armed = 0 → D1.armed = 0) ∧ Chg (fun j => j = b ∨ j = g ∨ j = sb) w wr ∧ ∀ i, 1 ≤ i → i ≤ k → w.heap.size ≤ lb i) (fun _ v _ => (ten - intOf v).toNat)
  case atStart => exact ⟨0, D, _, _, rfl, rfl, Nat.zero_le _, HP0.out, LenO.refl _ _, (fun h => h), Chg.refl _ _, fun i a b => by omega⟩
  case round =>
    clear HP0
    obtain ⟨k, D1, lb, L, rfl, rfl, hk, hsp, hln, har, hch, hge⟩ := hrel
    have HS := Lib.hid hsp
    have HLN := Lib.hid hln
    have HAR := Lib.hid har
    have HCH := Lib.hid hch
    have HGE := Lib.hid hge
    clear hsp hln har hch hge
    by_cases hlt : k < ten
    · have hi1 : (k : Int) < (ten : Int) := by omega
      have hi8 : (k : Int) < 8 := by omega
      have hi0 : (0 : Int) ≤ (k : Int) := by omega
      have hlt8 : k < 8 := by omega
      have HIT := Lib.hid (fun w => Tryz.strconv_Itoa_small k (by omega) w)
      obtain ⟨its, hits⟩ : ∃ its, its = (⟨(Lib.decDigits k).toArray⟩ : ByteArray) := ⟨_, rfl⟩
      have hitz : its.size ≤ 8 := by rw [hits]; exact digits8 hlt8
      rw [← hits] at HIT
      clear hits
      go_wp2_with fail
      refine wp_region_U 13 (fun _ => True) (by kernel_rfl) ?_
      change wpAnyU _ _ _ _ _ _ 14 (Array.replicate 14 false) _ _
      obtain ⟨wd, hwd⟩ : ∃ x, x = wr.drew := ⟨_, rfl⟩
      rw [← hwd]
      have hbd : Below wr.heap.size wr wd := by rw [hwd]; exact (Below.refl _ _).drew
      replace HS := Lib.hid (HS.out.grow hbd)
      replace HCH := Lib.hid (chgB HCH.out hbd)
      clear hwd hbd
      refine takeU 0 (v := ?_) rfl (by kernel_rfl) (by kernel_rfl) (fun _ _ _ h => h) rfl (fun u hu => ?_) trivial ?_
      rotate_left
      · skip; go_simp <;> with_reducible rfl
      simp only [Act.put, List.setIfInBounds_toArray, List.set_cons_zero, List.set_cons_succ]
      refine takeU 1 (v := ?_) rfl (by kernel_rfl) (by kernel_rfl) (fun _ _ _ h => h) rfl (fun u hu => ?_) trivial ?_
      rotate_left
      · skip; go_simp <;> with_reducible rfl
      simp only [Act.put, List.setIfInBounds_toArray, List.set_cons_zero, List.set_cons_succ]
      refine takeU 2 (v := ?_) rfl (by kernel_rfl) (by kernel_rfl) (fun _ _ _ h => h) rfl (fun u hu => ?_) trivial ?_
      rotate_left
      · skip; go_simp <;> with_reducible rfl
      simp only [Act.put, List.setIfInBounds_toArray, List.set_cons_zero, List.set_cons_succ]
      refine takeU 3 (v := ?_) rfl (by kernel_rfl) (by kernel_rfl) (fun _ _ _ h => h) rfl (fun u hu => ?_) trivial ?_
      rotate_left
      · skip; go_simp <;> with_reducible rfl
      simp only [Act.put, List.setIfInBounds_toArray, List.set_cons_zero, List.set_cons_succ]
      refine takeU 9 (v := ?_) rfl (by kernel_rfl) (by kernel_rfl) (fun _ _ _ h => h) rfl (fun u hu => ?_) trivial ?_
      rotate_left
      · skip; go_simp <;> with_reducible rfl
      simp only [Act.put, List.setIfInBounds_toArray, List.set_cons_zero, List.set_cons_succ]
      refine takeU 10 (v := ?_) rfl (by kernel_rfl) (by kernel_rfl) (fun _ _ _ h => h) rfl (fun u hu => ?_) trivial ?_
      rotate_left
      · skip; go_simp <;> with_reducible rfl
      simp only [Act.put, List.setIfInBounds_toArray, List.set_cons_zero, List.set_cons_succ]
      have HLG := Lib.hid (slogW k wd (by omega))
      obtain ⟨z, hz⟩ : ∃ z, z = fiS (k + 1) := ⟨_, rfl⟩
      have HZ := Lib.hid hz
      rw [← hz] at HLG
      clear hz
      refine oneU 4 (by kernel_rfl) ?_
      refine callU 4 rfl (by kernel_rfl) rfl 51 _ _ rfl #[.int .i64 (k : Nat)] (by simp [Act.eval]) (enters_of Tryz.func51 (by kernel_rfl) rfl) (fun v w' => v = .int .i64 (z : Nat) ∧ w' = wd) (HLG.out.mono fun e w' ⟨h1, h2⟩ => ⟨_, h1, rfl, h2⟩) ?_
      rintro v w5 ⟨rfl, rfl⟩
      refine ⟨trivial, ?_⟩
      simp only [Act.put, List.setIfInBounds_toArray, List.set_cons_zero, List.set_cons_succ]
      have HOP := Lib.hid (sopenX HS.out.on HS.out.ok HS.out.al (HS.out.rs (k + 1) (by omega) (.inr (by omega))) (by omega) (by unfold moS; split <;> omega))
      rw [← HZ.out, show moS (k + 1) = 16000 by unfold moS; rw [if_neg (by omega)]] at HOP
      refine oneU 5 (by kernel_rfl) ?_
      refine callU 5 rfl (by kernel_rfl) rfl 94 _ _ rfl #[.pointer (some ⟨b, 0, none⟩), .int .i64 (z : Nat), .int .i64 16000] (by simp [Act.eval]) (enters_of Tryz.func94 (by kernel_rfl) rfl) (fun v w' => (∃ D', v = .tuple #[.agg #[.pointer none, .int .i64 0, .string ⟨#[]⟩], sErr wLog 2] ∧ Hid (Chg (fun k => k = b ∨ k = g) w5 w' ∧ At B w0 b g cap D' w' ∧ GoneD D1 D' z ∧ Rs D'.l M z 16000 (n0 (k + 1)) (tx0 (k + 1)))) ∨ (∃ lb' L' D', v = .tuple #[.agg #[.pointer (some ⟨lb', 0, none⟩), .int .i64 (n0 (k + 1) : Nat), .string (tx0 (k + 1))], .nilIface] ∧ Hid (w5.heap.size ≤ lb' ∧ LAt B w0 b g cap lb' D' L' w' ∧ Chg (fun k => k = b ∨ k = g) w5 w' ∧ Alive D1 D' z ∧ Kp D'.l M z 16000 L' (n0 (k + 1)) (tx0 (k + 1))))) (HOP.out.mono fun e w' ⟨D', hc, hh⟩ => by
          rcases hh with ⟨q1, q2, q3, q4⟩ | ⟨lb', L', q1, q2, q3, q4, q5⟩
          · exact ⟨_, q1, .inl ⟨D', rfl, hc, q2, q3, q4⟩⟩
          · exact ⟨_, q1, .inr ⟨lb', L', D', rfl, q2, q3, hc, q4, q5⟩⟩) ?_
      rintro v w6 hv6
      refine ⟨trivial, ?_⟩
      simp only [Act.put, List.setIfInBounds_toArray, List.set_cons_zero, List.set_cons_succ]
      rcases hv6 with ⟨D', rfl, hK⟩ | ⟨lb', L', D', rfl, hK⟩
      · obtain ⟨q1, q2, q3, q4⟩ := hK.out
        have hst6 := HS.out.st.keep q1 (by have := HS.out.st.ne HS.out.on.disk; omega)
        have HST6 := Lib.hid hst6
        have HAT6 := Lib.hid q2
        have HRS6 := Lib.hid (HS.out.gone (j := k + 1) (.inr (by omega)) (by rw [← HZ.out]; exact q3) (by rw [← HZ.out, show moS (k + 1) = 16000 by unfold moS; rw [if_neg (by omega)]]; exact q4))
        have HFW6 := Lib.hid (FewS.gone q3 q4)
        have HG6 := Lib.hid q3
        have HC6 := Lib.hid (HCH.out.trans (q1.mono fun k _ h => by omega))
        have HSB := Lib.hid HS.out.sB
        have g0 := hst6.gp (t := k) (by omega)
        have g1 := hst6.gn (t := k) (by omega)
        have g2 := hst6.gt (t := k) (by omega)
        have f0 := hst6.free (4 + k * 3)
        have f1 := hst6.free (4 + k * 3 + 1)
        have f2 := hst6.free (4 + k * 3 + 2)
        clear q1 q2 q3 q4 hst6 hK
        refine takeU 6 (v := ?_) rfl (by kernel_rfl) (by kernel_rfl) (fun _ _ _ h => h) rfl (fun u hu => ?_) trivial ?_
        rotate_left
        · skip; go_simp <;> with_reducible rfl
        simp only [Act.put, List.setIfInBounds_toArray, List.set_cons_zero, List.set_cons_succ]
        refine takeU 7 (v := ?_) rfl (by kernel_rfl) (by kernel_rfl) (fun _ _ _ h => h) rfl (fun u hu => ?_) trivial ?_
        rotate_left
        · skip; go_simp <;> with_reducible rfl
        simp only [Act.put, List.setIfInBounds_toArray, List.set_cons_zero, List.set_cons_succ]
        refine takeU 8 (v := ?_) rfl (by kernel_rfl) (by kernel_rfl) (fun _ _ _ h => h) rfl (fun u hu => ?_) trivial ?_
        rotate_left
        · skip; go_simp <;> with_reducible rfl
        simp only [Act.put, List.setIfInBounds_toArray, List.set_cons_zero, List.set_cons_succ]
        refine takeU 11 (v := ?_) rfl (by kernel_rfl) (by kernel_rfl) (fun _ _ _ h => h) rfl (fun u hu => ?_) trivial ?_
        rotate_left
        · skip; go_simp <;> with_reducible rfl
        simp only [Act.put, List.setIfInBounds_toArray, List.set_cons_zero, List.set_cons_succ]
        refine oneU 12 (by kernel_rfl) ?_
        refine storeU 12 (w' := ((w6.setCell ⟨sb, 4 + k * 3, none⟩ (.pointer none)).setCell ⟨sb, 4 + k * 3 + 1, none⟩ (.int .i64 0)).setCell ⟨sb, 4 + k * 3 + 2, none⟩ (.string ⟨#[]⟩)) rfl (by kernel_rfl) (by kernel_rfl) ?_ ⟨trivial, ?_⟩
        · go_simp
        simp only [Act.put]
        refine oneU 13 (by kernel_rfl) ?_
        refine endU (v := ?_) 13 rfl (by kernel_rfl) (by kernel_rfl) rfl ?_ ?_
        rotate_left
        · go_simp <;> with_reducible rfl
        simp only [Act.put, List.setIfInBounds_toArray, List.set_cons_zero, List.set_cons_succ]
        have hcs := chgS3 w6 sb (4 + k * 3) (.pointer none) (.int .i64 0) (.string ⟨#[]⟩)
        obtain ⟨w7, hw7⟩ : ∃ w7, w7 = ((w6.setCell ⟨sb, 4 + k * 3, none⟩ (.pointer none)).setCell ⟨sb, 4 + k * 3 + 1, none⟩ (.int .i64 0)).setCell ⟨sb, 4 + k * 3 + 2, none⟩ (.string ⟨#[]⟩) := ⟨_, rfl⟩
        rw [← hw7] at hcs ⊢
        have HAT7 := Lib.hid (HAT6.out.overS HST6.out HSB.out hcs)
        have HC7 := Lib.hid (HC6.out.trans (hcs.mono fun k _ h => .inr (.inr h)))
        clear g0 g1 g2 f0 f1 f2 HOP HLG hcs hw7 HAT6 HC6
        unfold sErr
        go_wp2_with fail
        refine (HIT.out _).mono ?_
        rintro e w8 ⟨rfl, rfl⟩
        go_wp2_with fail
        go_ret
        exact ⟨D', HC7.out, .inr ⟨_, rfl, .inr ⟨_, _, rfl⟩, HAT7.out, HG6.out.ok, HG6.out.dd, fun h => HG6.out.ar (HAR.out h), HG6.out.len.trans HLN.out.len, HFW6.out, _, _, .inl rfl, HRS6.out.self⟩⟩
      · obtain ⟨q2, q3, q4, q5, q6⟩ := hK.out
        have HNX := Lib.hid (HS.out.next hlt h8 q3 q4 q2 (by rw [← HZ.out]; exact q5) (by rw [← HZ.out, show moS (k + 1) = 16000 by unfold moS; rw [if_neg (by omega)]]; exact q6))
        have hst6 := HS.out.st.keep q4 (by have := HS.out.st.ne HS.out.on.disk; omega)
        have g0 := hst6.gp (t := k) (by omega)
        have g1 := hst6.gn (t := k) (by omega)
        have g2 := hst6.gt (t := k) (by omega)
        have f0 := hst6.free (4 + k * 3)
        have f1 := hst6.free (4 + k * 3 + 1)
        have f2 := hst6.free (4 + k * 3 + 2)
        have HLN6 : Hid (LenO ten D.l D'.l) := HLN.out.alive (by have h := q5; rw [HZ.out] at h; exact h) (by omega)
        have HAR6 : Hid (D.armed = 0 → D'.armed = 0) := fun h => q5.ar (HAR.out h)
        have HC6 := Lib.hid (HCH.out.trans (q4.mono (S' := fun j => j = b ∨ j = g ∨ j = sb) fun k _ h => by omega))
        have HGE6 : Hid (∀ i, 1 ≤ i → i ≤ k + 1 → w.heap.size ≤ upd lb (k + 1) lb' i) := by
          intro i i1 i2
          by_cases e : i = k + 1
          · rw [e, upd_same]; have := HCH.out.size; omega
          · rw [upd_other _ _ e]; exact HGE.out i i1 (by omega)
        obtain ⟨y, hy⟩ : ∃ y, y = n0 (k + 1) := ⟨_, rfl⟩
        obtain ⟨x, hx⟩ : ∃ x, x = tx0 (k + 1) := ⟨_, rfl⟩
        rw [← hy, ← hx] at HNX ⊢
        clear q2 q3 q4 q5 q6 hst6 hK hy hx
        refine takeU 6 (v := ?_) rfl (by kernel_rfl) (by kernel_rfl) (fun _ _ _ h => h) rfl (fun u hu => ?_) trivial ?_
        rotate_left
        · skip; go_simp <;> with_reducible rfl
        simp only [Act.put, List.setIfInBounds_toArray, List.set_cons_zero, List.set_cons_succ]
        refine takeU 7 (v := ?_) rfl (by kernel_rfl) (by kernel_rfl) (fun _ _ _ h => h) rfl (fun u hu => ?_) trivial ?_
        rotate_left
        · skip; go_simp <;> with_reducible rfl
        simp only [Act.put, List.setIfInBounds_toArray, List.set_cons_zero, List.set_cons_succ]
        refine takeU 8 (v := ?_) rfl (by kernel_rfl) (by kernel_rfl) (fun _ _ _ h => h) rfl (fun u hu => ?_) trivial ?_
        rotate_left
        · skip; go_simp <;> with_reducible rfl
        simp only [Act.put, List.setIfInBounds_toArray, List.set_cons_zero, List.set_cons_succ]
        refine takeU 11 (v := ?_) rfl (by kernel_rfl) (by kernel_rfl) (fun _ _ _ h => h) rfl (fun u hu => ?_) trivial ?_
        rotate_left
        · skip; go_simp <;> with_reducible rfl
        simp only [Act.put, List.setIfInBounds_toArray, List.set_cons_zero, List.set_cons_succ]
        refine oneU 12 (by kernel_rfl) ?_
        refine storeU 12 (w' := ((w6.setCell ⟨sb, 4 + k * 3, none⟩ (.pointer (some ⟨lb', 0, none⟩))).setCell ⟨sb, 4 + k * 3 + 1, none⟩ (.int .i64 (y : Nat))).setCell ⟨sb, 4 + k * 3 + 2, none⟩ (.string x)) rfl (by kernel_rfl) (by kernel_rfl) ?_ ⟨trivial, ?_⟩
        · go_simp
        simp only [Act.put]
        refine oneU 13 (by kernel_rfl) ?_
        refine endU (v := ?_) 13 rfl (by kernel_rfl) (by kernel_rfl) rfl ?_ ?_
        rotate_left
        · go_simp <;> with_reducible rfl
        simp only [Act.put, List.setIfInBounds_toArray, List.set_cons_zero, List.set_cons_succ]
        have HC7 := Lib.hid (HC6.out.trans ((chgS3 w6 sb (4 + k * 3) (.pointer (some ⟨lb', 0, none⟩)) (.int .i64 (y : Nat)) (.string x)).mono (S' := fun j => j = b ∨ j = g ∨ j = sb) fun k _ h => .inr (.inr h)))
        clear g0 g1 g2 f0 f1 f2 HOP HLG HC6
        go_wp2_with fail
        exact ⟨⟨k + 1, D', upd lb (k + 1) lb', upd L (k + 1) L', rfl, rfl, by omega, HNX.out, HLN6.out, HAR6.out, HC7.out, HGE6.out⟩, by simp only [intOf]; omega⟩
    · have hi1 : ¬ (k : Int) < (ten : Int) := by omega
      obtain rfl : k = ten := by omega
      have HOP := Lib.hid (sopenX HS.out.on HS.out.ok HS.out.al (HS.out.rs 0 (Nat.zero_le _) (.inl rfl)) (by omega) (by unfold moS; rw [if_pos rfl]; exact Nat.zero_le _))
      rw [show fiS 0 = 0 from rfl, show moS 0 = 0 from rfl] at HOP
      clear hlt
      go_wp2_with fail
      refine HOP.out.mono ?_
      rintro e w2 ⟨D2, hc2, ⟨rfl, hat, hg, hrs⟩ | ⟨lb', L', rfl, hlb, hat, ha, hkp⟩⟩
      · have hst6 := HS.out.st.keep hc2 (by have := HS.out.st.ne HS.out.on.disk; omega)
        have HST6 := Lib.hid hst6
        have HAT6 := Lib.hid hat
        have HRS6 := Lib.hid (HS.out.gone (j := 0) (.inl rfl) hg hrs)
        have HFW6 := Lib.hid (FewS.gone hg hrs)
        have HG6 := Lib.hid hg
        have HC6 := Lib.hid (HCH.out.trans (hc2.mono (S' := fun j => j = b ∨ j = g ∨ j = sb) fun k _ h => by omega))
        have HSB := Lib.hid HS.out.sB
        have g0 := hst6.cp (i := 0) (by omega)
        have g1 := hst6.cn (i := 0) (by omega)
        have g2 := hst6.ct (i := 0) (by omega)
        have f0 := hst6.free 1
        have f1 := hst6.free 2
        have f2 := hst6.free 3
        clear hat hc2 hg hrs hst6 HOP HS
        unfold keptV lpV sErr
        replace g0 : w2.cell? ⟨sb, 1, none⟩ = some (lpV (if 1 ≤ 0 ∧ 0 ≤ k then some (lb 0) else none)) := g0
        replace g1 : w2.cell? ⟨sb, 2, none⟩ = some (.int .i64 ((if 1 ≤ 0 ∧ 0 ≤ k then n0 0 else 0 : Nat) : Int)) := g1
        replace g2 : w2.cell? ⟨sb, 3, none⟩ = some (.string (if 1 ≤ 0 ∧ 0 ≤ k then tx0 0 else ⟨#[]⟩)) := g2
        go_upto_region 9 with fail
        have hcs := chgS3 w2 sb 1 (.pointer none) (.int .i64 0) (.string ⟨#[]⟩)
        obtain ⟨w7, hw7⟩ : ∃ w7, w7 = ((w2.setCell ⟨sb, 1, none⟩ (.pointer none)).setCell ⟨sb, 2, none⟩ (.int .i64 0)).setCell ⟨sb, 3, none⟩ (.string ⟨#[]⟩) := ⟨_, rfl⟩
        replace hcs : Chg (fun k => k = sb) w2 w7 := by rw [hw7]; exact hcs
        try simp only [Option.map_none]
        rw [← hw7]
        have HAT7 := Lib.hid (HAT6.out.overS HST6.out HSB.out hcs)
        have HC7 := Lib.hid (HC6.out.trans (hcs.mono fun k _ h => .inr (.inr h)))
        clear g0 g1 g2 f0 f1 f2 hcs hw7 HAT6 HC6
        go_wp2_with fail
        go_ret
        exact ⟨D2, HC7.out, .inr ⟨_, rfl, .inl ⟨_, rfl⟩, HAT7.out, HG6.out.ok, HG6.out.dd, fun h => HG6.out.ar (HAR.out h), HG6.out.len.trans HLN.out.len, HFW6.out, _, _, .inl rfl, HRS6.out.self⟩⟩
      have HNX := Lib.hid (HS.out.full h8 HZZ.out hat hc2 hlb ha hkp)
      have hst6 := HS.out.st.keep hc2 (by have := HS.out.st.ne HS.out.on.disk; omega)
      have g0 := hst6.cp (i := 0) (by omega)
      have g1 := hst6.cn (i := 0) (by omega)
      have g2 := hst6.ct (i := 0) (by omega)
      have f0 := hst6.free 1
      have f1 := hst6.free 2
      have f2 := hst6.free 3
      have HLN2 : Hid (LenO _ D.l D2.l) := HLN.out.alive (i := 0) ha (Nat.zero_le _)
      have HAR2 : Hid (D.armed = 0 → D2.armed = 0) := fun h => ha.ar (HAR.out h)
      have HC2 := Lib.hid (HCH.out.trans (hc2.mono (S' := fun j => j = b ∨ j = g ∨ j = sb) fun k _ h => by omega))
      have HLB2 : Hid (w.heap.size ≤ lb') := by have := HCH.out.size; unfold Hid; omega
      obtain ⟨y, hy⟩ : ∃ y, y = n0 0 := ⟨_, rfl⟩
      obtain ⟨x, hx⟩ : ∃ x, x = tx0 0 := ⟨_, rfl⟩
      have HY := Lib.hid hy
      rw [← hy, ← hx] at HNX ⊢
      have hyb : y < 1099511627776 := by rw [hy]; exact HHE.out
      obtain ⟨yi, hyi⟩ : ∃ yi : Int, yi = (y : Nat) := ⟨_, rfl⟩
      have HYI := Lib.hid hyi
      have hy0 : 0 ≤ yi := by omega
      have hy1 : ¬ (1099511627776 : Int) ≤ yi := by omega
      rw [← hyi] at HNX
      clear hat hc2 hlb ha hkp hst6 hy hx hyi HOP HS HLN
      unfold keptV lpV
      rw [← HYI.out]
      replace g0 : w2.cell? ⟨sb, 1, none⟩ = some (lpV (if 1 ≤ 0 ∧ 0 ≤ k then some (lb 0) else none)) := g0
      replace g1 : w2.cell? ⟨sb, 2, none⟩ = some (.int .i64 ((if 1 ≤ 0 ∧ 0 ≤ k then n0 0 else 0 : Nat) : Int)) := g1
      replace g2 : w2.cell? ⟨sb, 3, none⟩ = some (.string (if 1 ≤ 0 ∧ 0 ≤ k then tx0 0 else ⟨#[]⟩)) := g2
      go_upto_region 9 with fail
      obtain ⟨w3, hw3⟩ : ∃ v, v = ((w2.setCell ⟨sb, 1, none⟩ (.pointer (some ⟨lb', 0, none⟩))).setCell ⟨sb, 2, none⟩ (.int .i64 yi)).setCell ⟨sb, 3, none⟩ (.string x) := ⟨_, rfl⟩
      have HN3 : Hid (StA B w0 b g cap sb k D2 M (upd lb 0 lb') (upd L 0 L') n0 tx0 w3) := by unfold Hid; rw [hw3]; exact HNX.out
      have HC3 : Hid (Chg (fun j => j = b ∨ j = g ∨ j = sb) w w3) := by
        unfold Hid
        rw [hw3]
        exact HC2.out.trans ((chgS3 w2 sb 1 (.pointer (some ⟨lb', 0, none⟩)) (.int .i64 yi) (.string x)).mono fun k _ h => .inr (.inr h))
      rw [← hw3]
      clear hw3 HNX HC2 g0 g1 g2 f0 f1 f2
      have HCN : Hid (∀ u : World, Below w3.heap.size w3 u → u.cell? ⟨sb, 2, none⟩ = some (.int .i64 yi)) := by
        intro u hu
        have h9 := (HN3.out.grow hu).st.cn (i := 0) (by omega)
        rw [← HY.out, ← HYI.out] at h9
        exact h9
      have HLA := Lib.hid (fun (u : World) (hs : StA B w0 b g cap sb k D2 M (upd lb 0 lb') (upd L 0 L') n0 tx0 u) => hs.layCall (i := 0) (Nat.zero_le _) hM (n0 0 + 1) ⟨#[]⟩ (by have := HHE.out; omega) (by show 0 ≤ _; exact Nat.zero_le _))
      have hci : ((n0 0 + 1 : Nat) : Int) = yi + 1 := by have h1 := HY.out; have h2 := HYI.out; omega
      have HCI := Lib.hid hci
      rw [hci] at HLA
      clear hci
      have c := HCN.out w3 (Below.refl _ _)
      go_wp2_with fail
      clear c
      skip
      have hdr : (w3.drew).cell? ⟨sb, 2, none⟩ = some (.int .i64 yi) := HCN.out _ (Below.refl _ _).drew
      have HNd := Lib.hid (HN3.out.grow (Below.refl _ _).drew)
      have HCd := Lib.hid (chgB HC3.out ((Below.refl _ _).drew : Below w3.heap.size w3 w3.drew))
      go_still_tail 9, (by kernel_rfl)
      change wpList _ _ _ _ _ w3.drew
      obtain ⟨wd, hwd⟩ : ∃ x, x = w3.drew := ⟨_, rfl⟩
      rw [← hwd] at hdr HNd HCd ⊢
      clear hwd
      have HLD := Lib.hid (HLA.out wd HNd.out)
      go_wp2_with fail
      refine HLD.out.mono ?_
      rintro e w5 ⟨D', L9, wz, hat, hc, ⟨rfl, q2, q3⟩ | ⟨word, rfl, rfl, hr⟩⟩
      · obtain ⟨wl, hwl, r1, r2, r3⟩ := HNd.out.laid (i := 0) (Nat.zero_le _) hat hc q3
        rw [HCI.out] at hwl
        have e : w5 = wl := q2.trans hwl.symm
        subst e
        have HS5 := Lib.hid r1
        have HA5 := Lib.hid r3
        have HC5 : Hid (Chg (fun j => j = b ∨ j = g ∨ j = sb) w w5) := ((HCd.out.mono (S' := fun j => j = lb' ∨ j = b ∨ j = g ∨ j = sb) fun k _ h => .inr h).trans (r2.mono fun k _ h => by unfold SS at h; rw [upd_same] at h; exact h)).mono fun k hk h => by have := HLB2.out; omega
        clear hat hc q2 q3 hwl r1 r2 r3 HLD hdr
        go_wp2_with fail
        go_ret
        exact ⟨D', HC5.out, .inl ⟨rfl, _, _, HS5.out, fun h => HA5.out.ar (HAR2.out h), HLN2.out.alive (i := 0) HA5.out (Nat.zero_le _)⟩⟩
      · have HC5 : Hid (Chg (fun j => j = b ∨ j = g ∨ j = sb) w w5) := ((HCd.out.mono (S' := fun j => j = lb' ∨ j = b ∨ j = g ∨ j = sb) fun k _ h => .inr h).trans (hc.mono fun k _ h => by rw [upd_same] at h; omega)).mono fun k hk h => by have := HLB2.out; omega
        cases hr with
        | gone hg hrs =>
          have HG : Hid (OpGone B w0 b g cap k D D' M n0 tx0 w5) := by
            unfold Hid
            rcases hrs with hrs | hrs
            · exact ⟨hat.on, hg.ok, hg.dd, fun h => hg.ar (HAR2.out h), hg.len.trans HLN2.out.len, FewS.gone hg hrs, _, _, .inl rfl, HNd.out.gone hg (Nat.le_succ _) hrs⟩
            · exact ⟨hat.on, hg.ok, hg.dd, fun h => hg.ar (HAR2.out h), hg.len.trans HLN2.out.len, FewS.gone hg hrs, _, _, .inr rfl, HNd.out.gone hg (Nat.le_succ _) hrs⟩
          clear hat hc hg hrs HLD hdr
          unfold sErr
          go_wp2_with fail
          go_ret
          exact ⟨D', HC5.out, .inr ⟨_, rfl, .inl ⟨_, rfl⟩, HG.out⟩⟩
end Go.Proofs.YtilpbjcbffbjeaaGreatDoor
namespace Go.Proofs.YtilpbjcbffbjeaaGreatDoor
set_option linter.unusedVariables false
set_option maxRecDepth 100000
open Go.RowKit
set_option linter.unusedSectionVars false
variable [Avoid]
theorem ErrT.pos {w : World} (h : ErrT w) : 0 < w.heap.size := by
  rcases Nat.eq_zero_or_pos w.heap.size with h0 | h1
  · simp [ErrT, World.cell?, h0] at h
  · exact h1
theorem ErrT.belowB {B : Nat} {w0 w : World} (h : ErrT w0) (hB : 0 < B) (hb : Below B w0 w) : ErrT w := (hb.cell (p := ⟨0, 0, none⟩) hB).trans h
theorem sfoundG {v : Value} (h : GoneE v) (w : World) (hgl : ErrT w) : Calls Tryz.prog 52 #[v] w fun ev w' => ev = .returned (.int .i64 2) ∧ Below w.heap.size w w' := by
  rcases h with ⟨s, rfl⟩ | ⟨s, s2, rfl⟩
  · exact sfoundW1 s 2 w hgl
  · exact sfoundW2 s s2 2 w hgl
theorem OpGone.grow {B b g cap ten M : Nat} {w0 w w' : World} {D D' : Dk} {n0 : Nat → Nat} {tx0 : Nat → ByteArray} (h : OpGone B w0 b g cap ten D D' M n0 tx0 w) (hb : Below w.heap.size w w') : OpGone B w0 b g cap ten D D' M n0 tx0 w' :=
  ⟨h.on.grow hb, h.ok, h.dd, h.ar, h.len, h.few, h.rs⟩
section
variable {B b g cap : Nat} {w0 w w' : World} {D : Dk}
set_option maxHeartbeats 2000000 in
theorem sOpenXX {ten M : Nat} {n0 : Nat → Nat} {tx0 : Nat → ByteArray} (hgl : ErrT w0) (hB : 0 < B) (h : At B w0 b g cap D w) (h1 : 1 ≤ ten) (h8 : ten ≤ 8) (hn : 2 + 3 * ten ≤ D.l.length)
    (hok : DOk D) (al : D.dead = false) (few : FewS D) (hM : M < 1099511627776) (hrs : RsA D.l M ten n0 tx0) (he : n0 0 < 1099511627776) (hz : ∀ i, ten < i → n0 i = 0 ∧ tx0 i = ⟨#[]⟩) :
    Calls Tryz.prog 21 #[.pointer (some ⟨b, 0, none⟩), .int .i64 (ten : Nat)] w fun e w' => ∃ D', Chg (fun j => j = b ∨ j = g) w w' ∧
      ((∃ sb lb L, e = .returned (.tuple #[.pointer (some ⟨sb, 0, none⟩), .int .i64 0]) ∧ w.heap.size ≤ sb ∧ StA B w0 b g cap sb ten D' (M + 1) lb L (upd n0 0 (n0 0 + 1)) (upd tx0 0 ⟨#[]⟩) w' ∧ (D.armed = 0 → D'.armed = 0) ∧ LenO ten D.l D'.l) ∨
       (e = .returned (.tuple #[.pointer none, .int .i64 2]) ∧ OpGone B w0 b g cap ten D D' M n0 tx0 w')) := by
  have HFI := Lib.hid (sfitsW h.disk al (ten : Nat))
  rw [show fitE ((ten : Nat) : Int) D.l.length = 0 by unfold fitE; rw [if_neg (by omega), if_neg (by omega)]] at HFI
  have hb1 : Below w.heap.size w (w.alloc (.cells (stC ten (fun _ => none) (fun _ => 0) (fun _ => ⟨#[]⟩) false) 116)) := (Below.refl _ _).alloc (Nat.le_refl _) _
  have HOP := Lib.hid (sopensX (sb := w.heap.size) (h.grow hb1) (heap_alloc_new w _) (by have := h.below.size; have := h.le; omega) h1 h8 hok al few hM hrs he hz)
  have HGL := Lib.hid (fun u (hu : Below B w0 u) => hgl.belowB hB hu)
  have HCH : Hid (∀ u, Chg (fun j => j = b ∨ j = g ∨ j = w.heap.size) (w.alloc (.cells (stC ten (fun _ => none) (fun _ => 0) (fun _ => ⟨#[]⟩) false) 116)) u → Chg (fun j => j = b ∨ j = g) w u) := fun u hu => ((Chg.of_below _ hb1).trans hu).mono fun k hk h => by omega
  clear h hb1 hok al few hrs he hz hn hgl
  go_enter Tryz.func21, Tryz.ntmps21
  go_wp2_with fail
  refine HFI.out.mono ?_
  rintro e w1 ⟨rfl, rfl⟩
  clear HFI
  go_wp2_with fail
  refine HOP.out.mono ?_
  rintro e w2 ⟨D', hc, ⟨rfl, lb, L, hst, har, hln⟩ | ⟨v, rfl, hv, hg⟩⟩
  · have HS := Lib.hid hst
    have HA := Lib.hid (And.intro har hln)
    have HC := Lib.hid (HCH.out _ hc)
    clear hst har hln HOP hc HCH
    go_wp2_with fail
    refine (sfoundNil _).mono ?_
    rintro e w3 ⟨rfl, hb⟩
    have HS3 := Lib.hid (HS.out.grow hb)
    have HC3 := Lib.hid (chgB HC.out hb)
    clear hb HS HC
    go_wp2_with fail
    go_ret2
    exact ⟨D', HC3.out, .inl ⟨_, lb, L, rfl, Nat.le_refl _, HS3.out, HA.out.1, HA.out.2⟩⟩
  · have HG := Lib.hid hg
    have HC := Lib.hid (HCH.out _ hc)
    have HF := Lib.hid (sfoundG hv w2 (HGL.out _ hg.on.below))
    clear hv hg HOP hc HCH
    go_wp2_with fail
    refine HF.out.mono ?_
    rintro e w3 ⟨rfl, hb⟩
    have HG3 := Lib.hid (HG.out.grow hb)
    have HC3 := Lib.hid (chgB HC.out hb)
    clear hb HG HC HF
    go_wp2_with fail
    go_ret2
    exact ⟨D', HC3.out, .inr ⟨rfl, HG3.out⟩⟩
end
theorem SS_SA {ten b g sb i j : Nat} {lb : Nat → Nat} (hi : i ≤ ten) (h : SS lb i b g sb j) : SA ten lb b g sb j := by
  rcases h with e | e | e | e
  · exact .inr (.inr (.inr ⟨i, hi, e⟩))
  · exact .inl e
  · exact .inr (.inl e)
  · exact .inr (.inr (.inl e))
/-- What a commit of the right generation leaves. -/
inductive ComR (B : Nat) (w0 : World) (b g cap sb ten : Nat) (D : Dk) (M : Nat) (lb : Nat → Nat) (n : Nat → Nat) (tx : Nat → ByteArray) (t : Nat) (u : ByteArray) (w' : World) : Int → Prop
  | long (L : Nat → Lg) : 16000 < u.size → StA B w0 b g cap sb ten D M lb L n tx w' → ComR B w0 b g cap sb ten D M lb n tx t u w' 182
  | ok (D' : Dk) (L : Nat → Lg) : u.size ≤ 16000 → StA B w0 b g cap sb ten D' (M + 1) lb L (upd n (t + 1) (n (t + 1) + 1)) (upd tx (t + 1) u) w' → Alive D D' (fiS (t + 1)) → ComR B w0 b g cap sb ten D M lb n tx t u w' 0
  | gone (D' : Dk) (n' : Nat → Nat) (tx' : Nat → ByteArray) : u.size ≤ 16000 → At B w0 b g cap D' w' → IsSt w' sb ten (lpS ten lb) n tx true → GoneD D D' (fiS (t + 1)) → FewS D' → RsA D'.l (M + 1) ten n' tx' →
      (n' = n ∧ tx' = tx ∨ n' = upd n (t + 1) (n (t + 1) + 1) ∧ tx' = upd tx (t + 1) u) → ComR B w0 b g cap sb ten D M lb n tx t u w' 2
theorem StA.commitX {B b g cap sb ten M : Nat} {w0 w : World} {D : Dk} {lb : Nat → Nat} {L : Nat → Lg} {n : Nat → Nat} {tx : Nat → ByteArray} (hgl : ErrT w0) (hB : 0 < B) (h : StA B w0 b g cap sb ten D M lb L n tx w) (hM : M < 1099511627776) (t : Nat) (ht : t < ten) (u : ByteArray) (hg : n (t + 1) < 1099511627776) :
    Calls Tryz.prog 15 #[.pointer (some ⟨sb, 0, none⟩), .int .i64 (t : Nat), .int .i64 (n (t + 1) : Nat), .string u] w fun e w' => ∃ r, e = .returned (.int .i64 r) ∧ Chg (SA ten lb b g sb) w w' ∧ ComR B w0 b g cap sb ten D M lb n tx t u w' r := by
  by_cases hu : 16000 < u.size
  · have hr : cRes ten n (t : Nat) (n (t + 1) : Nat) u = 182 := by unfold cRes; rw [if_neg (by omega), if_pos hu]
    refine (scommitNo h.st h.t8 (t : Nat) (n (t + 1) : Nat) u (by rw [hr]; decide)).mono ?_
    rintro e w' ⟨q1, rfl⟩
    rw [hr] at q1
    exact ⟨182, q1, Chg.refl _ _, .long L hu h⟩
  · refine (h.commit hM t ht u (by omega) hg (fun _ word w' hc => sfoundW1 word 2 w' (hgl.belowB hB (h.on.below.trans (hc.below (Nat.le_trans h.on.le h.on.below.size) (fun k hk e => by have := h.on.bB; have := h.on.gB; have := (h.lg (t + 1) (by omega)).2; omega)))))).mono ?_
    rintro e w' ⟨D', L', ⟨q1, q2, q3, q4⟩ | ⟨q1, q2, q3, q4, q5, q6⟩⟩
    · exact ⟨0, q1, q3.mono (fun j _ e => SS_SA (by omega) e), .ok D' _ (by omega) q2 q4⟩
    · refine ⟨2, q1, q4.mono (fun j _ e => SS_SA (by omega) e), ?_⟩
      rcases q6 with q6 | q6
      · have h9 := h.gone q5 (Nat.le_succ M) q6
        rw [upd_id, upd_id] at h9
        exact .gone D' n tx (by omega) q2 q3 q5 (FewS.gone q5 q6) h9 (.inl ⟨rfl, rfl⟩)
      · exact .gone D' _ _ (by omega) q2 q3 q5 (FewS.gone q5 q6) (h.gone q5 (Nat.le_succ M) q6) (.inr ⟨rfl, rfl⟩)
end Go.Proofs.YtilpbjcbffbjeaaGreatDoor
