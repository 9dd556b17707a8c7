/- The audit's file where the power goes: what a crash leaves, in plain terms. No program in sight. -/
import Derived.Test.YtilpbjcbffbjeaaGreatDoorAPlain
import Derived.Test.YtilpbjcbffbjeaaGreatDoorWCrash
namespace Go.Proofs.YtilpbjcbffbjeaaGreatDoor
set_option linter.unusedVariables false
open Go.RowKit
/-- The power stayed; the other files are as they were. -/
structure AliveA (D D' : Dk) (f : Nat) : Prop where
  ok : DOk D'
  al : D'.dead = false
  ch : D'.ch = D.ch
  ar : D.armed = 0 → D'.armed = 0
  len : D'.l.length = D.l.length
  other : ∀ j, j ≠ f → D'.l.getD j Fl.zero = D.l.getD j Fl.zero
/-- The power went; the other files are what it left. -/
structure GoneA (D D' : Dk) (f : Nat) : Prop where
  ok : DOk D'
  dd : D'.dead = true
  ch : D'.ch = D.ch
  ar : D.armed ≠ 0
  len : D'.l.length = D.l.length
  other : ∀ j, j ≠ f → j < D.l.length → ∃ cs, D'.l.getD j Fl.zero = ⟨left (D.l.getD j Fl.zero) cs, []⟩
theorem Lives.aliveA {D D' : Dk} {f : Nat} {x : Fl} (h : Lives D D' (D.l.set f x)) : AliveA D D' f :=
  ⟨h.ok, h.al, h.ch, h.ar, by rw [h.l, List.length_set], fun j h1 => by rw [h.l]; exact getD_set_ne _ _ _ _ _ (Ne.symm h1)⟩
theorem Dies.goneA {D D' : Dk} {f : Nat} {x : Fl} (h : Dies D D' (D.l.set f x)) : GoneA D D' f :=
  ⟨h.ok, h.dd, h.ch, h.ar, h.l.1.trans List.length_set, fun j h1 h3 => by
    obtain ⟨cs, e⟩ := h.l.2 j (by rw [List.length_set]; exact h3)
    exact ⟨cs, by rw [e, getD_set_ne _ _ _ _ _ (Ne.symm h1)]⟩⟩
theorem Dies.goneA' {D D' : Dk} (h : Dies D D' D.l) (f : Nat) : GoneA D D' f :=
  ⟨h.ok, h.dd, h.ch, h.ar, h.l.1, fun j h1 h3 => h.l.2 j h3⟩
theorem AliveA.trans {D D1 D2 : Dk} {f : Nat} (h : AliveA D D1 f) (k : AliveA D1 D2 f) : AliveA D D2 f :=
  ⟨k.ok, k.al, k.ch.trans h.ch, fun a => k.ar (h.ar a), k.len.trans h.len, fun j h1 => (k.other j h1).trans (h.other j h1)⟩
theorem AliveA.gone {D D1 D2 : Dk} {f : Nat} (h : AliveA D D1 f) (k : GoneA D1 D2 f) : GoneA D D2 f :=
  ⟨k.ok, k.dd, k.ch.trans h.ch, fun a => k.ar (h.ar a), k.len.trans h.len, fun j h1 h3 => by
    obtain ⟨cs, e⟩ := k.other j h1 (by rw [h.len]; exact h3)
    exact ⟨cs, by rw [e, h.other j h1]⟩⟩
/-- A live file: its texts, of which the first k are safe. -/
structure AC (x : Fl) (ss : List ByteArray) (k : Nat) : Prop where
  kl : k ≤ ss.length
  fit : ∀ s ∈ ss, s.size ≤ 1024
  safe : bs x.safe = recsL 0 (pays ((ss.take k).map bs))
  ws : x.ws.map bs = recW k ((pays (ss.map bs)).drop k)
/-- A file at rest, to be opened. -/
structure ARest (x : Fl) (ss : List ByteArray) : Prop where
  ws : x.ws = []
  fit : ∀ s ∈ ss, s.size ≤ 1024
  cb : ∃ B, bs x.safe = recsL 0 (pays (ss.map bs)) ++ B ∧ whole B = none
theorem recs_split (ps : List (List Nat)) (k : Nat) (h : k ≤ ps.length) : recsL 0 (ps.take k) ++ recsL k (ps.drop k) = recsL 0 ps := by
  have e := recsL_append (ps.take k) (ps.drop k) 0
  rw [List.take_append_drop, List.length_take, Nat.min_eq_left h, Nat.zero_add] at e
  exact e.symm
theorem AC.rdL {x : Fl} {ss : List ByteArray} {k : Nat} (h : AC x ss k) : rdL x = recsL 0 (pays (ss.map bs)) := by
  show bs x.safe ++ cat x.ws = _
  rw [cat_flat, h.safe, h.ws, recW_flat, List.map_take, ← take_pays]
  exact recs_split _ _ (by rw [length_pays, List.length_map]; exact h.kl)
theorem AC.size {x : Fl} {ss : List ByteArray} {k : Nat} (h : AC x ss k) : (rd x).size = lens (pays (ss.map bs)) := by
  rw [size_rdL, h.rdL, length_recsL]
theorem lens_pays_snoc (ss : List ByteArray) (T : ByteArray) : lens (pays ((ss ++ [T]).map bs)) = lens (pays (ss.map bs)) + (51 + T.size) := by
  rw [List.map_append, List.map_singleton, pays_snoc, lens_snoc, List.length_append, length_nextL, length_bs]; omega
theorem lens_pays_ge (ss : List ByteArray) : 19 * ss.length ≤ lens (pays (ss.map bs)) := by
  have := lens_ge (pays (ss.map bs))
  rw [length_pays, List.length_map] at this
  exact this
theorem AC.few {x : Fl} {ss : List ByteArray} {k : Nat} (h : AC x ss k) (hz : (rd x).size ≤ 262144) : 19 * ss.length ≤ 262144 := by
  have h1 := lens_pays_ge ss
  rw [h.size] at hz
  omega
theorem AC.many {x : Fl} {ss : List ByteArray} {k : Nat} (h : AC x ss k) : x.ws.length ≤ ss.length := by
  have e := congrArg List.length h.ws
  rw [List.length_map, length_recW, List.length_drop, length_pays, List.length_map] at e
  omega
theorem AC.start : AC Fl.zero [] 0 := ⟨Nat.le_refl _, (by simp), rfl, rfl⟩
/-- A text is laid down. -/
theorem AC.app {x : Fl} {ss : List ByteArray} {k : Nat} (h : AC x ss k) (T : ByteArray) (hT : T.size ≤ 1024) :
    AC ⟨x.safe, x.ws ++ [recS (ss.length + 1) (T ++ strOf (nextL (linkL (ss.map bs)) (bs T)))]⟩ (ss ++ [T]) k := by
  have hk := h.kl
  refine ⟨by rw [List.length_append]; omega, fun s hs => ?_, ?_, ?_⟩
  · rcases List.mem_append.1 hs with h1 | h1
    · exact h.fit s h1
    · rw [List.mem_singleton.1 h1]; exact hT
  · rw [List.take_append_of_le_length hk]; exact h.safe
  · show (x.ws ++ _).map bs = _
    rw [List.map_append, h.ws, List.map_singleton, bs_recS, bs_append, bs_strOf _ (nextL_lt _ _), List.map_append, List.map_singleton, pays_snoc, List.drop_append_of_le_length (by rw [length_pays, List.length_map]; exact hk), recW_snoc]
    rw [List.length_drop, length_pays, List.length_map, show k + (ss.length - k) + 1 = ss.length + 1 by omega]
theorem AC.syn {x : Fl} {ss : List ByteArray} {k : Nat} (h : AC x ss k) : AC ⟨rd x, []⟩ ss ss.length :=
  ⟨Nat.le_refl _, h.fit, by show bs (rd x) = _; rw [bs_rd, h.rdL, List.take_length], by show [] = recW _ _; rw [List.drop_of_length_le (by rw [length_pays, List.length_map]; exact Nat.le_refl _)]; rfl⟩
theorem AC.rest {x : Fl} {ss : List ByteArray} (h : AC x ss ss.length) : ARest x ss := by
  have e := h.ws
  rw [List.drop_of_length_le (by rw [length_pays, List.length_map]; exact Nat.le_refl _)] at e
  refine ⟨List.map_eq_nil_iff.1 e, h.fit, [], ?_, whole_nil⟩
  rw [List.append_nil, h.safe, List.take_length]
/-- The power goes: a beginning of the texts, with all that were safe. -/
theorem AC.crash {x : Fl} {ss : List ByteArray} {k : Nat} (h : AC x ss k) (hl : ss.length ≤ 1099511627776) (cs : List Int) :
    ∃ j, k ≤ j ∧ j ≤ ss.length ∧ ARest ⟨left x cs, []⟩ (ss.take j) := by
  have hk := h.kl
  have hp : (pays (ss.map bs)).length = ss.length := by rw [length_pays, List.length_map]
  obtain ⟨j, B, hj, hT, hB⟩ := crash_recs cs ((pays (ss.map bs)).drop k) k 0 (fun p hp' => pay_le (fits_map h.fit) p (List.mem_of_mem_drop hp')) (by rw [List.length_drop]; omega)
  rw [List.length_drop, hp] at hj
  refine ⟨k + j, by omega, by omega, rfl, fun s hs => h.fit s (List.mem_of_mem_take hs), B, ?_, hB⟩
  show bs (left x cs) = _
  rw [bs_left, leftL_tl, h.safe, h.ws, hT, ← List.append_assoc]
  congr 1
  have e := recs_split ((pays (ss.map bs)).take (k + j)) k (by rw [List.length_take]; omega)
  rw [List.take_take, Nat.min_eq_left (by omega), List.drop_take, show k + j - k = j by omega] at e
  rw [List.map_take, List.map_take, ← take_pays, ← take_pays, e]
theorem ARest.died {x : Fl} {ss : List ByteArray} (h : ARest x ss) (cs : List Int) : (⟨left x cs, []⟩ : Fl) = x := left_ws h.ws cs
theorem ARest.start : ARest Fl.zero [] := AC.start.rest
/-- What is read of a file at rest. -/
theorem ARest.scan {x : Fl} {ss : List ByteArray} (h : ARest x ss) (hl : ss.length ≤ 1099511627776) : Go.Proofs.YtilpbjcbffbjeaaGreatDoor.scan (bs (rd x)) = pays (ss.map bs) := by
  obtain ⟨B, hb, hB⟩ := h.cb
  rw [rd_ws h.ws, hb]
  exact scan_pays (fits_map h.fit) (by rw [List.length_map]; exact hl) B hB
theorem ARest.size {x : Fl} {ss : List ByteArray} (h : ARest x ss) : lens (pays (ss.map bs)) ≤ (rd x).size := by
  obtain ⟨B, hb, hB⟩ := h.cb
  rw [rd_ws h.ws, ← length_bs, hb, List.length_append, length_recsL]
  omega
/-- Cut behind its last whole record it is all texts, all safe. -/
theorem ARest.cut {x : Fl} {ss : List ByteArray} (h : ARest x ss) : AC ⟨x.safe.extract 0 (lens (pays (ss.map bs))), []⟩ ss ss.length := by
  obtain ⟨B, hb, hB⟩ := h.cb
  refine ⟨Nat.le_refl _, h.fit, ?_, ?_⟩
  · show bs (x.safe.extract 0 _) = _
    rw [bs_extract, hb, List.drop_zero, Nat.sub_zero, List.take_left' (length_recsL _ _), List.take_length]
  · show [] = recW _ _
    rw [List.drop_of_length_le (by rw [length_pays, List.length_map]; exact Nat.le_refl _)]; rfl
theorem ARest.full {x : Fl} {ss : List ByteArray} (h : ARest x ss) (hz : ¬ lens (pays (ss.map bs)) < (rd x).size) : AC x ss ss.length := by
  obtain ⟨B, hb, hB⟩ := h.cb
  have e : B = [] := by
    rw [rd_ws h.ws, ← length_bs, hb, List.length_append, length_recsL] at hz
    exact List.eq_nil_of_length_eq_zero (by omega)
  subst e
  refine ⟨Nat.le_refl _, h.fit, ?_, ?_⟩
  · rw [hb, List.append_nil, List.take_length]
  · rw [h.ws, List.drop_of_length_le (by rw [length_pays, List.length_map]; exact Nat.le_refl _)]; rfl
end Go.Proofs.YtilpbjcbffbjeaaGreatDoor
