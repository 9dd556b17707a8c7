/- The audit's calls, whether the power goes in them or not: what becomes of the file. -/
import Derived.Test.YtilpbjcbffbjeaaGreatDoorACrash
import Derived.Test.YtilpbjcbffbjeaaGreatDoorPkK
import Derived.Test.YtilpbjcbffbjeaaGreatDoorWCalls
namespace Go.Proofs.YtilpbjcbffbjeaaGreatDoor
set_option linter.unusedVariables false
set_option maxRecDepth 100000
open Go.RowKit
set_option linter.unusedSectionVars false
variable [Avoid]
/-- An audit's log: in file f, with a quota, over the disk at b; its texts. -/
def IsAL (w : World) (lb b f : Nat) (quota : Int) (ss : List ByteArray) (dead : Bool) : Prop :=
  ∃ v, IsALog w lb ⟨⟨b, 0, none⟩, (f : Nat), quota, v, strOf (linkL (ss.map bs)), dead⟩ ∧ WS w v ss
theorem IsAL.lt {w : World} {lb b f : Nat} {quota : Int} {ss : List ByteArray} {dd : Bool} (h : IsAL w lb b f quota ss dd) : lb < w.heap.size := by obtain ⟨v, h, _⟩ := h; exact h.lt
theorem IsAL.keep {S : Nat → Prop} {w w' : World} {lb b f : Nat} {quota : Int} {ss : List ByteArray} {dd : Bool} (h : IsAL w lb b f quota ss dd) (hc : Chg S w w') (hn : ¬ S lb) (hm : Muts S w) : IsAL w' lb b f quota ss dd := by
  obtain ⟨v, h1, h2⟩ := h
  exact ⟨v, h1.keep hc hn, h2.keep hc hm⟩
theorem IsAL.below {w w' : World} {lb b f : Nat} {quota : Int} {ss : List ByteArray} {dd : Bool} (h : IsAL w lb b f quota ss dd) (hb : Below w.heap.size w w') : IsAL w' lb b f quota ss dd :=
  h.keep (Chg.of_below (fun _ => False) hb) id (muts_none w)
theorem IsAL.muts {w : World} {lb b f : Nat} {quota : Int} {ss : List ByteArray} {dd : Bool} (h : IsAL w lb b f quota ss dd) : Muts (fun k => k = lb) w := by obtain ⟨v, h, _⟩ := h; exact h.muts
theorem IsALog.ne {w : World} {lb b g cap : Nat} {l : ALog} {D : Dk} (h : IsALog w lb l) (hd : IsDisk w b g cap D) : lb ≠ b ∧ lb ≠ g := by
  constructor
  · rintro rfl
    obtain ⟨cv, h1, _⟩ := hd.blk
    rw [show w.heap[lb]? = _ from h] at h1
    injection h1 with h1
    injection h1 with _ hT _
    exact absurd hT (by decide)
  · rintro rfl
    obtain ⟨cv, h1, _⟩ := hd.fs.blk
    rw [show w.heap[lb]? = _ from h] at h1
    injection h1 with h1
    injection h1 with _ hT _
    exact absurd hT (by decide)
theorem IsAL.ne {w : World} {lb b b' g cap f : Nat} {quota : Int} {ss : List ByteArray} {dd : Bool} {D : Dk} (h : IsAL w lb b f quota ss dd) (hd : IsDisk w b' g cap D) : lb ≠ b' ∧ lb ≠ g := by obtain ⟨v, h, _⟩ := h; exact h.ne hd
theorem muts_or {S T : Nat → Prop} {w : World} (h : Muts S w) (k : Muts T w) : Muts (fun x => S x ∨ T x) w := fun x hx hs => hs.elim (h x hx) (k x hx)
theorem IsAL.muts3 {w : World} {lb b b' g cap f : Nat} {quota : Int} {ss : List ByteArray} {dd : Bool} {D : Dk} (h : IsAL w lb b f quota ss dd) (hd : IsDisk w b' g cap D) : Muts (fun k => k = lb ∨ k = b' ∨ k = g) w := muts_or h.muts hd.muts
theorem WS.txA {P : Nat → Prop} {w : World} {v : Value} {ss : List ByteArray} (h : WS w v ss) (hm : Muts P w) : TxA P w v ss := by
  have hs := h.strs
  have ho : w.ownsRow 0 9 1 v ss.length (ss.map Value.string) := by have h9 := h; unfold WS Row1 at h9; rw [List.length_map] at h9; exact h9.1
  obtain ⟨p, cap, rfl⟩ := rowShape ho
  obtain ⟨p', cap', e, hc⟩ := hs.form
  simp only [Value.slice.injEq] at e
  obtain ⟨rfl, _, rfl⟩ := e
  refine ⟨p, cap, rfl, (own_cap ho).1, (own_cap ho).2, fun hp => ?_, fun a ha => ?_⟩
  · subst hp
    rcases ho.2 with ⟨h1, _⟩ | ⟨g, cp, cur, h1, _⟩
    · simp only [Value.slice.injEq] at h1; exact h1.2.2
    · simp at h1
  · subst ha
    rcases ho.2 with ⟨h1, _⟩ | ⟨g, cp, cur, h1, hg, hgb, _⟩
    · simp at h1
    · simp only [Value.slice.injEq, Option.some.injEq] at h1
      obtain ⟨rfl, _, rfl⟩ := h1
      have hlt : g < w.heap.size := (Array.getElem?_eq_some_iff.1 hgb).1
      refine ⟨rfl, fun hp => hm g hlt hp _ _ _ hgb (.inl rfl), hlt, fun i hi => ?_⟩
      obtain ⟨b, off, e, hcell⟩ := hc i hi
      cases e
      exact hcell
/-- What becomes of a text that is laid down. -/
inductive AAppR (D : Dk) (f : Nat) (quota : Int) (ss : List ByteArray) (k : Nat) (T : ByteArray) : Int → Dk → List ByteArray → Bool → Prop
  | long : 1024 < T.size → AAppR D f quota ss k T 190 D ss false
  | full : T.size ≤ 1024 → aroom quota (rd (D.l.getD f Fl.zero)).size < (T.size : Int) → AAppR D f quota ss k T 191 D ss false
  | ok (D' : Dk) : T.size ≤ 1024 → ¬ aroom quota (rd (D.l.getD f Fl.zero)).size < (T.size : Int) → AliveA D D' f → AC (D'.l.getD f Fl.zero) (ss ++ [T]) k → AAppR D f quota ss k T 0 D' (ss ++ [T]) false
  | gone (D' : Dk) : T.size ≤ 1024 → ¬ aroom quota (rd (D.l.getD f Fl.zero)).size < (T.size : Int) → GoneA D D' f → (∃ j, k ≤ j ∧ j ≤ ss.length + 1 ∧ ARest (D'.l.getD f Fl.zero) ((ss ++ [T]).take j)) →
      (rd (D'.l.getD f Fl.zero)).size ≤ (rd (D.l.getD f Fl.zero)).size + 51 + T.size → AAppR D f quota ss k T 2 D' ss true
/-- What becomes of a sync. -/
inductive ASynR (D : Dk) (f : Nat) (ss : List ByteArray) (k : Nat) : Int → Dk → Bool → Prop
  | ok (D' : Dk) : AliveA D D' f → AC (D'.l.getD f Fl.zero) ss ss.length → ASynR D f ss k 0 D' false
  | gone (D' : Dk) : GoneA D D' f → (∃ j, k ≤ j ∧ j ≤ ss.length ∧ ARest (D'.l.getD f Fl.zero) (ss.take j)) → (rd (D'.l.getD f Fl.zero)).size ≤ (rd (D.l.getD f Fl.zero)).size → ASynR D f ss k 2 D' true
section
variable {w : World} {lb b g cap f k : Nat} {quota : Int} {ss : List ByteArray} {D : Dk}
theorem size_left1 (x : Fl) (cs : List Int) : (rd ⟨left x cs, []⟩).size ≤ (rd x).size := by rw [rd_safe]; exact size_left x cs
theorem aroom_le {q : Int} {z n : Nat} (h : ¬ aroom q z < (n : Int)) : (z : Int) + 51 + n ≤ q ∧ n ≤ 1024 := by unfold aroom at h; omega
theorem aappR (h : IsAL w lb b f quota ss false) (hd : IsDisk w b g cap D) (hok : DOk D) (al : D.dead = false) (hf : f < D.l.length) (hx : AC (D.l.getD f Fl.zero) ss k) (hm : Many D) (hq : 0 ≤ quota ∧ quota ≤ 262144) (T : ByteArray) :
    Calls Tryz.prog 17 #[.pointer (some ⟨lb, 0, none⟩), .string T] w fun e w' => ∃ r D' ss' dd, e = .returned (.int .i64 r) ∧ IsAL w' lb b f quota ss' dd ∧ IsDisk w' b g cap D' ∧ Chg (fun k => k = lb ∨ k = b ∨ k = g) w w' ∧ AAppR D f quota ss k T r D' ss' dd := by
  have hM := h.muts3 hd
  have hn := h.ne hd
  obtain ⟨v, h1, h2⟩ := h
  have hfew := hx.few (hok.size f hf)
  by_cases hT : 1024 < T.size
  · exact (aappendLong h1 rfl T hT).mono fun e w' ⟨q1, q2⟩ => ⟨190, D, ss, false, q1, q2 ▸ ⟨v, h1, h2⟩, q2 ▸ hd, q2 ▸ Chg.refl _ _, .long hT⟩
  by_cases hr : aroom quota (rd (D.l.getD f Fl.zero)).size < (T.size : Int)
  · exact (aappendFull h1 rfl hd hok hf rfl rfl hq T (by omega) hr).mono fun e w' ⟨q1, q2⟩ => ⟨191, D, ss, false, q1, ⟨v, h1.below q2 h1.lt, h2.below q2⟩, hd.below q2, Chg.of_below _ q2, .full (by omega) hr⟩
  have hrm := aroom_le hr
  have hlk : (strOf (linkL (ss.map bs))).size = 32 := by rw [size_strOf, length_linkL]
  have hbl : bs (strOf (linkL (ss.map bs))) = linkL (ss.map bs) := bs_strOf _ (linkL_lt _)
  have e51 : (recS (ss.length + 1) (T ++ strOf (nextL (linkL (ss.map bs)) (bs T)))).size = 51 + T.size := by rw [size_recS, ByteArray.size_append, size_strOf, length_nextL]; omega
  have hnx : strOf (linkL ((ss ++ [T]).map bs)) = strOf (nextL (linkL (ss.map bs)) (bs T)) := by rw [List.map_append, List.map_singleton, linkL_snoc]
  have hap := hx.app T (by omega)
  rcases writeX_c hok al f (recS (ss.length + 1) (T ++ strOf (nextL (linkL (ss.map bs)) (bs T)))) hf (by rw [e51]; omega) (hm f hf) with ⟨D', e, hl⟩ | ⟨D', e, hl⟩
  · refine (aappendOk (T := T) h1 (h2.txA hM) (by omega) hd hok hm hn hf rfl rfl hq rfl hlk (by omega) (by show (T.size : Int) ≤ aroom quota _; omega) (by rw [hbl, e])).mono ?_
    rintro e' w' ⟨q1, v', q2, q3, q4, q5⟩
    rw [hbl, e] at q4
    rw [hbl] at q2
    refine ⟨0, D', ss ++ [T], false, q1, ⟨v', by rw [hnx]; exact q2, q3.wsG hd.gb⟩, q4, q5, .ok D' (by omega) hr hl.aliveA ?_⟩
    rw [hl.l, getD_set_self _ _ _ _ hf]
    exact hap
  · refine (aappendGone (T := T) h1 (h2.txA hM) (by omega) hd hok hm hn hf rfl rfl hq rfl hlk (by omega) (by show (T.size : Int) ≤ aroom quota _; omega) (by rw [hbl, e])).mono ?_
    rintro e' w' ⟨q1, q2, q4, q5⟩
    rw [hbl, e] at q4
    obtain ⟨cs, ec⟩ := hl.l.2 f (by rw [List.length_set]; exact hf)
    rw [getD_set_self _ _ _ _ hf] at ec
    refine ⟨2, D', ss, true, q1, ⟨v, q2, h2.keep q5 hM⟩, q4, q5, .gone D' (by omega) hr hl.goneA ?_ ?_⟩
    · rw [ec]
      obtain ⟨j, j1, j2, j3⟩ := hap.crash (by rw [List.length_append, List.length_singleton]; omega) cs
      rw [List.length_append, List.length_singleton] at j2
      exact ⟨j, j1, j2, j3⟩
    · rw [ec]
      refine Nat.le_trans (size_left1 _ _) ?_
      rw [hap.size, lens_pays_snoc, ← hx.size]
      omega
theorem asynR (h : IsAL w lb b f quota ss false) (hd : IsDisk w b g cap D) (hok : DOk D) (al : D.dead = false) (hf : f < D.l.length) (hx : AC (D.l.getD f Fl.zero) ss k) :
    Calls Tryz.prog 18 #[.pointer (some ⟨lb, 0, none⟩)] w fun e w' => ∃ r D' dd, e = .returned (.int .i64 r) ∧ IsAL w' lb b f quota ss dd ∧ IsDisk w' b g cap D' ∧ Chg (fun k => k = lb ∨ k = b ∨ k = g) w w' ∧ ASynR D f ss k r D' dd := by
  have hM := h.muts3 hd
  have hn := h.ne hd
  obtain ⟨v, h1, h2⟩ := h
  have hfew := hx.few (hok.size f hf)
  rcases syncX_c hok al f hf with ⟨D', e, hl⟩ | ⟨D', e, hl⟩
  · refine (asyncOk h1 hd hok hn rfl rfl rfl (by rw [e])).mono ?_
    rintro e' w' ⟨q1, q2, q3, q4⟩
    rw [e] at q3
    refine ⟨0, D', false, q1, ⟨v, q2, h2.keep q4 hd.muts⟩, q3, q4.mono (fun k _ h => .inr h), .ok D' hl.aliveA ?_⟩
    rw [hl.l, getD_set_self _ _ _ _ hf]
    exact hx.syn
  · refine (asyncGone h1 hd hok hn rfl rfl rfl (by rw [e])).mono ?_
    rintro e' w' ⟨q1, q2, q3, q4⟩
    rw [e] at q3
    obtain ⟨cs, ec⟩ := hl.l.2 f hf
    refine ⟨2, D', true, q1, ⟨v, q2, h2.keep q4 hM⟩, q3, q4, .gone D' (hl.goneA' f) ?_ ?_⟩
    · rw [ec]; exact hx.crash (by omega) cs
    · rw [ec]; exact size_left1 _ _
/-- What becomes of an opening. -/
inductive AOpenR (D : Dk) (f : Nat) (ss : List ByteArray) (D' : Dk) : Bool → Prop
  | gone : GoneA D D' f → (ARest (D'.l.getD f Fl.zero) ss ∨ ∃ cs, D'.l.getD f Fl.zero = ⟨left (D.l.getD f Fl.zero) cs, []⟩) → (rd (D'.l.getD f Fl.zero)).size ≤ (rd (D.l.getD f Fl.zero)).size → AOpenR D f ss D' true
  | ok : AliveA D D' f → AC (D'.l.getD f Fl.zero) ss ss.length → (rd (D'.l.getD f Fl.zero)).size ≤ (rd (D.l.getD f Fl.zero)).size → AOpenR D f ss D' false
theorem aopenR (hd : IsDisk w b g cap D) (hok : DOk D) (al : D.dead = false) (hf : f < D.l.length) (hx : ARest ⟨rd (D.l.getD f Fl.zero), []⟩ ss) (hq : 0 ≤ quota ∧ quota ≤ 262144) :
    Calls Tryz.prog 12 #[.pointer (some ⟨b, 0, none⟩), .int .i64 (f : Nat), .int .i64 quota] w fun e w' => ∃ D', IsDisk w' b g cap D' ∧ Chg (fun k => k = b ∨ k = g) w w' ∧
      ((e = .returned (.tuple #[.pointer none, .int .i64 2]) ∧ AOpenR D f ss D' true) ∨
       (∃ lb, e = .returned (.tuple #[.pointer (some ⟨lb, 0, none⟩), .int .i64 0]) ∧ w.heap.size ≤ lb ∧ IsAL w' lb b f quota ss false ∧ AOpenR D f ss D' false)) := by
  have hz := hok.size f hf
  have hsz := hx.size
  rw [rd_safe] at hsz
  have hg := lens_pays_ge ss
  have hfit := fits_map hx.fit
  rcases syncX_c hok al f hf with ⟨D1, e, hl⟩ | ⟨D1, e, hl⟩
  · have hx1 : D1.l.getD f Fl.zero = ⟨rd (D.l.getD f Fl.zero), []⟩ := by rw [hl.l, getD_set_self _ _ _ _ hf]
    have hl1 : D1.l.length = D.l.length := by rw [hl.l, List.length_set]
    have hsc := hx.scan (by omega)
    have hr1 : rd (D1.l.getD f Fl.zero) = rd (D.l.getD f Fl.zero) := by rw [hx1, rd_safe]
    rw [rd_safe, ← hr1] at hsc
    have hP : (∀ p ∈ Go.Proofs.YtilpbjcbffbjeaaGreatDoor.scan (bs (rd (D1.l.getD f Fl.zero))), okP p) ∧ (au (Go.Proofs.YtilpbjcbffbjeaaGreatDoor.scan (bs (rd (D1.l.getD f Fl.zero))))).2.2 = none := by
      rw [hsc, au_pays]; exact ⟨okP_pays hfit, rfl⟩
    by_cases hlt : lens (pays (ss.map bs)) < (rd (D.l.getD f Fl.zero)).size
    · have hsafe : (D1.l.getD f Fl.zero).safe.size = (rd (D.l.getD f Fl.zero)).size := by rw [hx1]
      rcases cutX_c hl.ok hl.al f (lens (pays (ss.map bs))) (by omega) (by rw [hx1]) (by omega) with ⟨D2, e2, hl2⟩ | ⟨D2, e2, hl2⟩
      · refine (aopenCut hd hok al hf quota hq D1 e hl.ok hl.al hl1 hP D2 (fun _ => by rw [hsc]; exact e2) (fun hno => absurd (by rw [hsc, hr1]; exact hlt) hno)).mono ?_
        rintro e' w' ⟨lb, v, q1, q2, q3, q4, q5, q6⟩
        rw [hsc, au_pays] at q3
        rw [hsc, txts_pays] at q4
        have hxe : D2.l.getD f Fl.zero = ⟨(rd (D.l.getD f Fl.zero)).extract 0 (lens (pays (ss.map bs))), []⟩ := by rw [hl2.l, getD_set_self _ _ _ _ (by omega), hx1]
        have hac : AC (D2.l.getD f Fl.zero) ss ss.length := by rw [hxe]; exact hx.cut
        exact ⟨D2, q5, q6, .inr ⟨lb, q1, q2, ⟨v, q3, q4.wsG hd.gb⟩, .ok (hl.aliveA.trans hl2.aliveA) hac (by rw [hac.size]; omega)⟩⟩
      · refine (aopenGone hd hok al hf quota hq D1 e hl.ok hl.al hl1 hP D2 (by rw [hsc, hr1]; exact hlt) (by rw [hsc]; exact e2)).mono ?_
        rintro e' w' ⟨q1, q2, q3⟩
        have hxe : D2.l.getD f Fl.zero = ⟨rd (D.l.getD f Fl.zero), []⟩ := by
          obtain ⟨cs, ec⟩ := hl2.l.2 f (by omega)
          rw [ec, hx1, left_ws rfl]
        exact ⟨D2, q2, q3, .inl ⟨q1, .gone (hl.aliveA.gone (hl2.goneA' f)) (.inl (by rw [hxe]; exact hx)) (by rw [hxe, rd_safe]; exact Nat.le_refl _)⟩⟩
    · refine (aopenCut hd hok al hf quota hq D1 e hl.ok hl.al hl1 hP D1 (fun h => absurd (by rw [hsc, hr1] at h; exact h) hlt) (fun _ => rfl)).mono ?_
      rintro e' w' ⟨lb, v, q1, q2, q3, q4, q5, q6⟩
      rw [hsc, au_pays] at q3
      rw [hsc, txts_pays] at q4
      have hac : AC (D1.l.getD f Fl.zero) ss ss.length := by rw [hx1]; exact hx.full (by rw [rd_safe]; exact hlt)
      exact ⟨D1, q5, q6, .inr ⟨lb, q1, q2, ⟨v, q3, q4.wsG hd.gb⟩, .ok hl.aliveA hac (by rw [hac.size]; omega)⟩⟩
  · refine (aopenSync hd hok al hf quota hq D1 e).mono ?_
    rintro e' w' ⟨q1, q2, q3⟩
    obtain ⟨cs, ec⟩ := hl.l.2 f hf
    exact ⟨D1, q2, q3, .inl ⟨q1, .gone (hl.goneA' f) (.inr ⟨cs, ec⟩) (by rw [ec]; exact size_left1 _ _)⟩⟩
theorem ARest.of_ac {x : Fl} (h : AC x ss k) : ARest ⟨rd x, []⟩ ss := h.syn.rest
theorem ARest.sync {x : Fl} (h : ARest x ss) : ARest ⟨rd x, []⟩ ss := by rw [Fl.safe_self h.ws]; exact h
end
end Go.Proofs.YtilpbjcbffbjeaaGreatDoor
