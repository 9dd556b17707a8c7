/- Walks of the program's disk: what only reads.
   The walk of the program's left: what choices leave of a file.
   Walks of the program's disk: Files, After.
   Walks of the program's disk: the power goes. -/
import Derived.Test.YtilpbjcbffbjeaaGreatDoorPkA
import Derived.Test.YtilpbjcbffbjeaaGreatDoorShelf
namespace Go.Proofs.YtilpbjcbffbjeaaGreatDoor
set_option linter.unusedVariables false
open Go.RowKit
set_option linter.unusedSectionVars false
variable [Avoid]
theorem join_empty (l : List (List UInt8)) : Lib.join l [] = l.flatten := by
  induction l with
  | nil => rfl
  | cons x l ih =>
    cases l with
    | nil => simp [Lib.join_one]
    | cons y l => simp [Lib.join, List.intercalate, List.intersperse] at ih ⊢; exact ih
theorem strOf_cat (ss : List ByteArray) : (⟨((ss.map (·.data.toList)).flatten).toArray⟩ : ByteArray) = strOf (cat ss) := by
  unfold strOf cat
  congr 2
  induction ss with
  | nil => rfl
  | cons s ss ih => simp [bs, List.map_flatMap, ih, Function.comp_def] at *
theorem joinW (v : Value) (ss : List ByteArray) (w : World) (h : WS w v ss) (hl : (cat ss).length ≤ 140737488355328) (hn : ss.length ≤ 140737488355328) :
    Calls Tryz.prog 99 #[v, .string ⟨#[]⟩] w fun e w' => e = .returned (.string (strOf (cat ss))) ∧ Below w.heap.size w w' := by
  obtain ⟨p, cap, rfl, hcap, hc⟩ := Row1.form h
  rw [List.length_map] at hc ⊢
  rw [List.length_map] at hcap
  by_cases h0 : ss.length = 0
  · rw [h0]
    have e : ss = [] := List.eq_nil_of_length_eq_zero h0
    subst e
    exact (Tryz.strings_Join_none p cap ⟨#[]⟩ w).mono fun e w' ⟨h1, h2⟩ => ⟨h1, h2 ▸ Below.refl _ _⟩
  · obtain ⟨g, rfl, _⟩ := hc 0 (by omega)
    have hcell : ∀ (j : Nat) x, ss[j]? = some x → w.cell? ⟨g, 0 + j, none⟩ = some (.string x) := fun j x hx => by
      have hj : j < ss.length := (List.getElem?_eq_some_iff.1 hx).1
      obtain ⟨g', hg, hcell⟩ := hc j hj
      have : g = g' := by injection hg with hg; injection hg
      subst this
      rw [Nat.zero_add, hcell, List.getElem?_map, hx]; rfl
    have hb : g < w.heap.size := by
      have := hcell 0 (ss[0]'(by omega)) (List.getElem?_eq_getElem (by omega))
      exact block_lt_of_cell this
    have he : (Lib.join (ss.map (·.data.toList)) (⟨#[]⟩ : ByteArray).data.toList).length ≤ 140737488355328 := by
      have h1 : (⟨#[]⟩ : ByteArray).data.toList = [] := rfl
      rw [h1, join_empty]
      have h2 := congrArg ByteArray.size (strOf_cat ss)
      rw [size_strOf] at h2
      have h3 : (⟨((ss.map (·.data.toList)).flatten).toArray⟩ : ByteArray).size = ((ss.map (·.data.toList)).flatten).length := by show Array.size _ = _; simp
      omega
    refine (Tryz.strings_Join g 0 cap ss ⟨#[]⟩ w hcell hb hn hcap he).mono fun e w' ⟨h1, h2⟩ => ⟨?_, h2⟩
    rw [h1, show (⟨#[]⟩ : ByteArray).data.toList = [] from rfl, join_empty, strOf_cat]
set_option maxHeartbeats 400000 in
theorem isYes {b g cap : Nat} {D : Dk} {w : World} (h : IsDisk w b g cap D) (f : Nat) (hf : f < D.l.length) :
    Calls Tryz.prog 69 #[.pointer (some ⟨b, 0, none⟩), .int .i64 (f : Nat)] w fun e w' => e = .returned (.bool true) ∧ w = w' := by
  have h1 := h.cells.1
  have h2 := h.fs.len
  have h3 := h.fs.capm
  unfold maxLen at h3
  clear h
  go_enter Tryz.func69, Tryz.ntmps69
  go_wp2_with fail
  go_ret
  exact ⟨rfl, rfl⟩
set_option maxHeartbeats 400000 in
theorem isNo {b g cap : Nat} {D : Dk} {w : World} (h : IsDisk w b g cap D) (f : Int) (hf : f < 0 ∨ D.l.length ≤ f) :
    Calls Tryz.prog 69 #[.pointer (some ⟨b, 0, none⟩), .int .i64 f] w fun e w' => e = .returned (.bool false) ∧ w = w' := by
  have h1 := h.cells.1
  have h2 := h.fs.len
  have h3 := h.fs.capm
  unfold maxLen at h3
  clear h
  rcases hf with hf | hf
  · go_enter Tryz.func69, Tryz.ntmps69
    go_wp2_with fail
    go_ret
    exact ⟨rfl, rfl⟩
  · have hd : decide (f < (D.l.length : Int)) = false := by simpa using hf
    go_enter Tryz.func69, Tryz.ntmps69
    go_wp2_with fail
    go_ret
    exact ⟨rfl, rfl⟩
set_option maxHeartbeats 400000 in
theorem readW (f : Fl) (v : Value) (w : World) (h : WS w v f.ws) (hl : (rd f).size ≤ 140737488355328) (hn : f.ws.length ≤ 140737488355328) :
    Calls Tryz.prog 70 #[.agg #[.string f.safe, v]] w fun e w' => e = .returned (.string (rd f)) ∧ Below w.heap.size w w' := by
  have hsz := size_rd f
  have hb0 : Below w.heap.size w (w.alloc (.cells #[.string f.safe, v] 97)) := (Below.refl _ _).alloc (Nat.le_refl _) _
  obtain ⟨W, hW⟩ : ∃ W, W = w.alloc (.cells #[.string f.safe, v] 97) := ⟨_, rfl⟩
  have c1 : ∀ t : Grow W, t.val.cell? ⟨w.heap.size, 0, none⟩ = some (.string f.safe) := fun t => t.cell (by rw [hW]; simp)
  have c2 : ∀ t : Grow W, t.val.cell? ⟨w.heap.size, 1, none⟩ = some v := fun t => t.cell (by rw [hW]; simp)
  rw [← hW] at hb0
  have C1 : Hid (∀ t : Grow W, Calls Tryz.prog 99 #[v, .string ⟨#[]⟩] t.val fun e w' => e = .returned (.string (strOf (cat f.ws))) ∧ Below t.val.heap.size t.val w') := fun t =>
    joinW v f.ws t.val ((h.below hb0).below t.below) (by omega) hn
  have hrd : f.safe ++ strOf (cat f.ws) = rd f := bs_inj (by rw [bs_append, bs_rd, bs_strOf _ (cat_lt _)]; rfl)
  have hok : ¬ 9223372036854775807 < f.safe.size + (strOf (cat f.ws)).size := by rw [size_strOf]; omega
  have HRD := Lib.hid hrd
  have HB0 := Lib.hid hb0
  have HW := Lib.hid hW
  clear hrd hb0 hW h hl hsz
  go_enter Tryz.func70, Tryz.ntmps70
  go_wp2_with fail
  rw [← HW.out]
  refine wp_region_fam (by kernel_rfl) (by kernel_rfl) Grow.val (Grow.start W) ?_
  repeat go_big_quiet_step ((with_reducible refine Calls.fam_of (C1.out _) (Grow.more _)))
  refine wpQuiet_nil ?_
  intro t
  clear c1 c2 C1
  go_wp2_with fail
  go_ret
  exact ⟨congrArg (fun x => Ending.returned (.string x)) HRD.out, HB0.out.trans (t.below.mono HB0.out.size)⟩
/-- A disk's bounds. -/
structure DOk (D : Dk) : Prop where
  n : D.l.length ≤ 32
  pos : 0 < D.l.length
  size : ∀ f, f < D.l.length → (rd (D.l.getD f Fl.zero)).size ≤ 262144
  many : ∀ f, f < D.l.length → (D.l.getD f Fl.zero).ws.length ≤ 1099511627776
  armed : D.armed ≤ 9223372036854775807
  chl : ∀ i, (D.ch.getD i []).length ≤ 140737488355328
set_option maxHeartbeats 400000 in
theorem sizeYes {b g cap : Nat} {D : Dk} {w : World} (h : IsDisk w b g cap D) (hok : DOk D) (f : Nat) (hf : f < D.l.length) :
    Calls Tryz.prog 32 #[.pointer (some ⟨b, 0, none⟩), .int .i64 (f : Nat)] w fun e w' => e = .returned (.int .i64 ((rd (D.l.getD f Fl.zero)).size : Nat)) ∧ Below w.heap.size w w' := by
  have HI := Lib.hid (isYes h f hf)
  have h1 := h.cells.1
  have h2 := h.fs.len
  have h3 := h.fs.capm
  unfold maxLen at h3
  obtain ⟨v, h5, h6⟩ := h.fs.ws f hf
  have h4 := h.fs.safe f hf
  obtain ⟨x, hx⟩ : ∃ x, x = D.l.getD f Fl.zero := ⟨_, rfl⟩
  rw [← hx] at h4 h6 ⊢
  have h7 := hok.size f hf
  have h8 := hok.many f hf
  rw [← hx] at h7 h8
  have HR := Lib.hid (readW x v w h6 (by omega) (by omega))
  clear h h6 hx hok h8
  go_enter Tryz.func32, Tryz.ntmps32
  go_wp2_with fail
  refine HI.out.mono ?_
  rintro e w' ⟨rfl, rfl⟩
  go_wp2_with fail
  refine HR.out.mono ?_
  rintro e w' ⟨rfl, hb⟩
  go_wp2_with fail
  go_ret
  exact ⟨rfl, hb⟩
set_option maxHeartbeats 400000 in
theorem sizeNo {b g cap : Nat} {D : Dk} {w : World} (h : IsDisk w b g cap D) (f : Int) (hf : f < 0 ∨ D.l.length ≤ f) :
    Calls Tryz.prog 32 #[.pointer (some ⟨b, 0, none⟩), .int .i64 f] w fun e w' => e = .returned (.int .i64 (-1)) ∧ w = w' := by
  have HI := Lib.hid (isNo h f hf)
  clear h hf
  go_enter Tryz.func32, Tryz.ntmps32
  go_wp2_with fail
  refine HI.out.mono ?_
  rintro e w' ⟨rfl, rfl⟩
  go_wp2_with fail
  go_ret
  exact ⟨rfl, rfl⟩
set_option maxHeartbeats 400000 in
theorem countW {b g cap : Nat} {D : Dk} {w : World} (h : IsDisk w b g cap D) :
    Calls Tryz.prog 82 #[.pointer (some ⟨b, 0, none⟩)] w fun e w' => e = .returned (.int .i64 (D.l.length : Nat)) ∧ w = w' := by
  have h1 := h.cells.1
  clear h
  go_enter Tryz.func82, Tryz.ntmps82
  go_wp2_with fail
  go_ret
  exact ⟨rfl, rfl⟩
set_option maxHeartbeats 400000 in
theorem deadW {b g cap : Nat} {D : Dk} {w : World} (h : IsDisk w b g cap D) :
    Calls Tryz.prog 14 #[.pointer (some ⟨b, 0, none⟩)] w fun e w' => e = .returned (.bool D.dead) ∧ w = w' := by
  have h1 := h.cells.2.2.2
  clear h
  go_enter Tryz.func14, Tryz.ntmps14
  go_wp2_with fail
  go_ret
  exact ⟨rfl, rfl⟩
set_option maxHeartbeats 400000 in
theorem goesNo {b g cap : Nat} {D : Dk} {w : World} (h : IsDisk w b g cap D) (ha : D.armed = 0) :
    Calls Tryz.prog 88 #[.pointer (some ⟨b, 0, none⟩)] w fun e w' => e = .returned (.bool false) ∧ w = w' := by
  have h1 := h.cells.2.1
  rw [ha] at h1
  have h2 : w.cell? ⟨b, 1, none⟩ = some (.int .i64 0) := h1
  clear h h1 ha
  go_enter Tryz.func88, Tryz.ntmps88
  go_wp2_with fail
  go_ret
  exact ⟨rfl, rfl⟩
set_option maxHeartbeats 400000 in
theorem goesYes {b g cap : Nat} {D : Dk} {w : World} (h : IsDisk w b g cap D) (n : Nat) (ha : D.armed = n + 1) (hn : n < 9223372036854775807) :
    Calls Tryz.prog 88 #[.pointer (some ⟨b, 0, none⟩)] w fun e w' => e = .returned (.bool (decide (n = 0))) ∧ IsDisk w' b g cap ⟨D.l, n, D.ch, D.dead⟩ ∧ Chg (fun k => k = b) w w' := by
  have h1 := h.cells.2.1
  rw [ha] at h1
  have h2 : w.cell? ⟨b, 1, none⟩ = some (.int .i64 ((n : Int) + 1)) := h1
  have h3 := h.free 1
  have h4 : (((n : Int) + 1) == 0) = false := by rw [beq_eq_false_iff_ne]; omega
  have HH := Lib.hid (And.intro (h.setArmed n) (Chg.setCell (fun k => k = b) w (j := 1) rfl (.int .i64 (n : Nat))))
  clear h h1 ha
  by_cases h0 : n = 0
  · subst h0
    go_enter Tryz.func88, Tryz.ntmps88
    go_wp2_with fail
    go_ret
    exact ⟨rfl, HH.out⟩
  · have h5 : ((n : Int) == 0) = false := by rw [beq_eq_false_iff_ne]; omega
    go_enter Tryz.func88, Tryz.ntmps88
    go_wp2_with fail
    go_ret
    exact ⟨by rw [decide_eq_false h0]; rfl, HH.out⟩
set_option maxHeartbeats 400000 in
theorem reviveW {b g cap : Nat} {D : Dk} {w : World} (h : IsDisk w b g cap D) :
    Calls Tryz.prog 20 #[.pointer (some ⟨b, 0, none⟩)] w fun e w' => e = .returned (.tuple #[]) ∧ IsDisk w' b g cap ⟨D.l, 0, D.ch, false⟩ ∧ Chg (fun k => k = b) w w' := by
  have h1 := h.cells.2.1
  have h2 := h.cells.2.2.2
  have h3 := h.free 1
  have h4 := h.free 3
  have HH := Lib.hid (And.intro ((h.setDead false).setArmed 0) ((Chg.setCell (fun k => k = b) w (j := 3) rfl (.bool false)).trans (Chg.setCell (fun k => k = b) _ (j := 1) rfl (.int .i64 ((0 : Nat) : Int)))))
  clear h
  go_enter Tryz.func20, Tryz.ntmps20
  go_wp2_with fail
  go_end0
  exact ⟨rfl, HH.out⟩
/-! Why a call is refused. -/
set_option maxHeartbeats 400000 in
theorem refDead {b g cap : Nat} {D : Dk} {w : World} (h : IsDisk w b g cap D) (hd : D.dead = true) (k f n : Int) :
    Calls Tryz.prog 71 #[.pointer (some ⟨b, 0, none⟩), .int .i64 k, .int .i64 f, .int .i64 n] w fun e w' => e = .returned (.int .i64 2) ∧ w = w' := by
  have h1 := h.cells.2.2.2
  rw [hd] at h1
  clear h hd
  go_enter Tryz.func71, Tryz.ntmps71
  go_wp2_with fail
  go_ret
  exact ⟨rfl, rfl⟩
set_option maxHeartbeats 400000 in
theorem refRead {b g cap : Nat} {D : Dk} {w : World} (h : IsDisk w b g cap D) (hd : D.dead = false) (f : Nat) (hf : f < D.l.length) (n : Int) :
    Calls Tryz.prog 71 #[.pointer (some ⟨b, 0, none⟩), .int .i64 2, .int .i64 (f : Nat), .int .i64 n] w fun e w' => e = .returned (.int .i64 0) ∧ w = w' := by
  have h1 := h.cells.2.2.2
  rw [hd] at h1
  have HI := Lib.hid (isYes h f hf)
  clear h hd
  go_enter Tryz.func71, Tryz.ntmps71
  go_wp2_with fail
  refine HI.out.mono ?_
  rintro e w' ⟨rfl, rfl⟩
  go_wp2_with fail
  go_ret
  exact ⟨rfl, rfl⟩
set_option maxHeartbeats 800000 in
theorem refNo {b g cap : Nat} {D : Dk} {w : World} (h : IsDisk w b g cap D) (hd : D.dead = false) (k : Int) (hk : k = 0 ∨ k = 1 ∨ k = 2) (f : Int) (hf : f < 0 ∨ D.l.length ≤ f) (n : Int) :
    Calls Tryz.prog 71 #[.pointer (some ⟨b, 0, none⟩), .int .i64 k, .int .i64 f, .int .i64 n] w fun e w' => e = .returned (.int .i64 160) ∧ w = w' := by
  have h1 := h.cells.2.2.2
  rw [hd] at h1
  have HI := Lib.hid (isNo h f hf)
  clear h hd hf
  rcases hk with rfl | rfl | rfl
  · go_enter Tryz.func71, Tryz.ntmps71
    go_wp2_with fail
    refine HI.out.mono ?_
    rintro e w' ⟨rfl, rfl⟩
    go_wp2_with fail
    refine HI.out.mono ?_
    rintro e w' ⟨rfl, rfl⟩
    go_wp2_with fail
    refine HI.out.mono ?_
    rintro e w' ⟨rfl, rfl⟩
    go_wp2_with fail
    go_ret
    exact ⟨rfl, rfl⟩
  · go_enter Tryz.func71, Tryz.ntmps71
    go_wp2_with fail
    refine HI.out.mono ?_
    rintro e w' ⟨rfl, rfl⟩
    go_wp2_with fail
    refine HI.out.mono ?_
    rintro e w' ⟨rfl, rfl⟩
    go_wp2_with fail
    go_ret
    exact ⟨rfl, rfl⟩
  · go_enter Tryz.func71, Tryz.ntmps71
    go_wp2_with fail
    refine HI.out.mono ?_
    rintro e w' ⟨rfl, rfl⟩
    go_wp2_with fail
    go_ret
    exact ⟨rfl, rfl⟩
set_option maxHeartbeats 800000 in
theorem refWrite {b g cap : Nat} {D : Dk} {w : World} (h : IsDisk w b g cap D) (hok : DOk D) (hd : D.dead = false) (f : Nat) (hf : f < D.l.length) (n : Nat) (hn : n < 9223372036854775807) :
    Calls Tryz.prog 71 #[.pointer (some ⟨b, 0, none⟩), .int .i64 1, .int .i64 (f : Nat), .int .i64 (n : Nat)] w fun e w' => e = .returned (.int .i64 (if 262144 < (rd (D.l.getD f Fl.zero)).size + n then 161 else 0)) ∧ Below w.heap.size w w' := by
  have h1 := h.cells.2.2.2
  rw [hd] at h1
  have HI := Lib.hid (isYes h f hf)
  have HS := Lib.hid (sizeYes h hok f hf)
  have hs := hok.size f hf
  have HID := Lib.hid h
  obtain ⟨z, hz⟩ : ∃ z, z = (rd (D.l.getD f Fl.zero)).size := ⟨_, rfl⟩
  rw [← hz] at HS hs ⊢
  clear h hd hz
  by_cases hc : 262144 < z + n
  · rw [if_pos hc]
    have hx : (262144 : Int) - (z : Int) < (n : Int) := by omega
    go_enter Tryz.func71, Tryz.ntmps71
    go_wp2_with fail
    refine HI.out.mono ?_
    rintro e w' ⟨rfl, rfl⟩
    go_wp2_with fail
    refine HS.out.mono ?_
    rintro e w1 ⟨rfl, hb⟩
    have HI2 := Lib.hid (isYes (HID.out.below hb) f hf)
    have HB := Lib.hid hb
    clear hb
    go_wp2_with fail
    refine HI2.out.mono ?_
    rintro e w' ⟨rfl, rfl⟩
    go_wp2_with fail
    go_ret
    exact ⟨rfl, HB.out⟩
  · rw [if_neg hc]
    have hx : ¬ (262144 : Int) - (z : Int) < (n : Int) := by omega
    go_enter Tryz.func71, Tryz.ntmps71
    go_wp2_with fail
    refine HI.out.mono ?_
    rintro e w' ⟨rfl, rfl⟩
    go_wp2_with fail
    refine HS.out.mono ?_
    rintro e w1 ⟨rfl, hb⟩
    have HI2 := Lib.hid (isYes (HID.out.below hb) f hf)
    have HB := Lib.hid hb
    clear hb
    go_wp2_with fail
    refine HI2.out.mono ?_
    rintro e w' ⟨rfl, rfl⟩
    go_wp2_with fail
    go_ret
    exact ⟨rfl, HB.out⟩
set_option maxHeartbeats 800000 in
theorem refCut1 {b g cap : Nat} {D : Dk} {w : World} (h : IsDisk w b g cap D) (hok : DOk D) (hd : D.dead = false) (f : Nat) (hf : f < D.l.length) (n : Int) (ha : 0 < (D.l.getD f Fl.zero).ws.length) :
    Calls Tryz.prog 71 #[.pointer (some ⟨b, 0, none⟩), .int .i64 0, .int .i64 (f : Nat), .int .i64 n] w fun e w' => e = .returned (.int .i64 162) ∧ Below w.heap.size w w' := by
  have h1 := h.cells.2.2.2
  rw [hd] at h1
  have HI := Lib.hid (isYes h f hf)
  have HS := Lib.hid (sizeYes h hok f hf)
  have hs := hok.size f hf
  have HID := Lib.hid h
  have h0 := h.cells.1
  have h2 := h.fs.len
  have h3 := h.fs.capm
  unfold maxLen at h3
  have h4 := h.fs.safe f hf
  obtain ⟨v, h5, h6⟩ := h.fs.ws f hf
  obtain ⟨p, c, rfl, _⟩ := h6.form
  obtain ⟨m, hm⟩ : ∃ m, m = (D.l.getD f Fl.zero).ws.length := ⟨_, rfl⟩
  obtain ⟨sf, hsf⟩ : ∃ m, m = (D.l.getD f Fl.zero).safe := ⟨_, rfl⟩
  obtain ⟨z, hz⟩ : ∃ z, z = (rd (D.l.getD f Fl.zero)).size := ⟨_, rfl⟩
  rw [← hm] at h5 ha
  rw [← hsf] at h4 
  rw [← hz] at HS hs
  have hx : ¬ (262144 : Int) - (z : Int) < 0 := by omega
  have hy : decide ((0 : Int) < (m : Int)) = true := by simp; omega
  clear h h6 hd hz hm hsf
  go_enter Tryz.func71, Tryz.ntmps71
  go_wp2_with fail
  refine HI.out.mono ?_
  rintro e w' ⟨rfl, rfl⟩
  go_wp2_with fail
  refine HI.out.mono ?_
  rintro e w' ⟨rfl, rfl⟩
  go_wp2_with fail
  refine HS.out.mono ?_
  rintro e w1 ⟨rfl, hb⟩
  have HI2 := Lib.hid (isYes (HID.out.below hb) f hf)
  have HB := Lib.hid hb
  clear hb
  go_wp2_with fail
  refine HI2.out.mono ?_
  rintro e w' ⟨rfl, rfl⟩
  go_wp2_with fail
  go_ret
  exact ⟨rfl, HB.out⟩
set_option maxHeartbeats 800000 in
theorem refCut2 {b g cap : Nat} {D : Dk} {w : World} (h : IsDisk w b g cap D) (hok : DOk D) (hd : D.dead = false) (f : Nat) (hf : f < D.l.length) (n : Int) (ha : (D.l.getD f Fl.zero).ws.length = 0) (hn : n < 0) :
    Calls Tryz.prog 71 #[.pointer (some ⟨b, 0, none⟩), .int .i64 0, .int .i64 (f : Nat), .int .i64 n] w fun e w' => e = .returned (.int .i64 162) ∧ Below w.heap.size w w' := by
  have h1 := h.cells.2.2.2
  rw [hd] at h1
  have HI := Lib.hid (isYes h f hf)
  have HS := Lib.hid (sizeYes h hok f hf)
  have hs := hok.size f hf
  have HID := Lib.hid h
  have h0 := h.cells.1
  have h2 := h.fs.len
  have h3 := h.fs.capm
  unfold maxLen at h3
  have h4 := h.fs.safe f hf
  obtain ⟨v, h5, h6⟩ := h.fs.ws f hf
  obtain ⟨p, c, rfl, _⟩ := h6.form
  obtain ⟨m, hm⟩ : ∃ m, m = (D.l.getD f Fl.zero).ws.length := ⟨_, rfl⟩
  obtain ⟨sf, hsf⟩ : ∃ m, m = (D.l.getD f Fl.zero).safe := ⟨_, rfl⟩
  obtain ⟨z, hz⟩ : ∃ z, z = (rd (D.l.getD f Fl.zero)).size := ⟨_, rfl⟩
  rw [← hm] at h5 ha
  rw [← hsf] at h4 
  rw [← hz] at HS hs
  have hx : ¬ (262144 : Int) - (z : Int) < 0 := by omega
  have hy : m = 0 := ha
  subst hy
  clear h h6 hd hz hm hsf
  go_enter Tryz.func71, Tryz.ntmps71
  go_wp2_with fail
  refine HI.out.mono ?_
  rintro e w' ⟨rfl, rfl⟩
  go_wp2_with fail
  refine HI.out.mono ?_
  rintro e w' ⟨rfl, rfl⟩
  go_wp2_with fail
  refine HS.out.mono ?_
  rintro e w1 ⟨rfl, hb⟩
  have HI2 := Lib.hid (isYes (HID.out.below hb) f hf)
  have HB := Lib.hid hb
  clear hb
  go_wp2_with fail
  refine HI2.out.mono ?_
  rintro e w' ⟨rfl, rfl⟩
  go_wp2_with fail
  go_ret
  exact ⟨rfl, HB.out⟩
set_option maxHeartbeats 800000 in
theorem refCut3 {b g cap : Nat} {D : Dk} {w : World} (h : IsDisk w b g cap D) (hok : DOk D) (hd : D.dead = false) (f : Nat) (hf : f < D.l.length) (n : Int) (ha : (D.l.getD f Fl.zero).ws.length = 0) (hn : 0 ≤ n) (hb : (D.l.getD f Fl.zero).safe.size < n) :
    Calls Tryz.prog 71 #[.pointer (some ⟨b, 0, none⟩), .int .i64 0, .int .i64 (f : Nat), .int .i64 n] w fun e w' => e = .returned (.int .i64 162) ∧ Below w.heap.size w w' := by
  have h1 := h.cells.2.2.2
  rw [hd] at h1
  have HI := Lib.hid (isYes h f hf)
  have HS := Lib.hid (sizeYes h hok f hf)
  have hs := hok.size f hf
  have HID := Lib.hid h
  have h0 := h.cells.1
  have h2 := h.fs.len
  have h3 := h.fs.capm
  unfold maxLen at h3
  have h4 := h.fs.safe f hf
  obtain ⟨v, h5, h6⟩ := h.fs.ws f hf
  obtain ⟨p, c, rfl, _⟩ := h6.form
  obtain ⟨m, hm⟩ : ∃ m, m = (D.l.getD f Fl.zero).ws.length := ⟨_, rfl⟩
  obtain ⟨sf, hsf⟩ : ∃ m, m = (D.l.getD f Fl.zero).safe := ⟨_, rfl⟩
  obtain ⟨z, hz⟩ : ∃ z, z = (rd (D.l.getD f Fl.zero)).size := ⟨_, rfl⟩
  rw [← hm] at h5 ha
  rw [← hsf] at h4 hb
  rw [← hz] at HS hs
  have hx : ¬ (262144 : Int) - (z : Int) < 0 := by omega
  have hy : m = 0 := ha
  subst hy
  clear h h6 hd hz hm hsf
  go_enter Tryz.func71, Tryz.ntmps71
  go_wp2_with fail
  refine HI.out.mono ?_
  rintro e w' ⟨rfl, rfl⟩
  go_wp2_with fail
  refine HI.out.mono ?_
  rintro e w' ⟨rfl, rfl⟩
  go_wp2_with fail
  refine HS.out.mono ?_
  rintro e w1 ⟨rfl, hb⟩
  have HI2 := Lib.hid (isYes (HID.out.below hb) f hf)
  have HB := Lib.hid hb
  clear hb
  go_wp2_with fail
  refine HI2.out.mono ?_
  rintro e w' ⟨rfl, rfl⟩
  go_wp2_with fail
  go_ret
  exact ⟨rfl, HB.out⟩
set_option maxHeartbeats 800000 in
theorem refCut {b g cap : Nat} {D : Dk} {w : World} (h : IsDisk w b g cap D) (hok : DOk D) (hd : D.dead = false) (f : Nat) (hf : f < D.l.length) (n : Int) (ha : (D.l.getD f Fl.zero).ws.length = 0) (hn : 0 ≤ n) (hb : n ≤ (D.l.getD f Fl.zero).safe.size) :
    Calls Tryz.prog 71 #[.pointer (some ⟨b, 0, none⟩), .int .i64 0, .int .i64 (f : Nat), .int .i64 n] w fun e w' => e = .returned (.int .i64 0) ∧ Below w.heap.size w w' := by
  have h1 := h.cells.2.2.2
  rw [hd] at h1
  have HI := Lib.hid (isYes h f hf)
  have HS := Lib.hid (sizeYes h hok f hf)
  have hs := hok.size f hf
  have HID := Lib.hid h
  have h0 := h.cells.1
  have h2 := h.fs.len
  have h3 := h.fs.capm
  unfold maxLen at h3
  have h4 := h.fs.safe f hf
  obtain ⟨v, h5, h6⟩ := h.fs.ws f hf
  obtain ⟨p, c, rfl, _⟩ := h6.form
  obtain ⟨m, hm⟩ : ∃ m, m = (D.l.getD f Fl.zero).ws.length := ⟨_, rfl⟩
  obtain ⟨sf, hsf⟩ : ∃ m, m = (D.l.getD f Fl.zero).safe := ⟨_, rfl⟩
  obtain ⟨z, hz⟩ : ∃ z, z = (rd (D.l.getD f Fl.zero)).size := ⟨_, rfl⟩
  rw [← hm] at h5 ha
  rw [← hsf] at h4 hb
  rw [← hz] at HS hs
  have hx : ¬ (262144 : Int) - (z : Int) < 0 := by omega
  have hy : m = 0 := ha
  subst hy
  clear h h6 hd hz hm hsf
  go_enter Tryz.func71, Tryz.ntmps71
  go_wp2_with fail
  refine HI.out.mono ?_
  rintro e w' ⟨rfl, rfl⟩
  go_wp2_with fail
  refine HI.out.mono ?_
  rintro e w' ⟨rfl, rfl⟩
  go_wp2_with fail
  refine HS.out.mono ?_
  rintro e w1 ⟨rfl, hb⟩
  have HI2 := Lib.hid (isYes (HID.out.below hb) f hf)
  have HB := Lib.hid hb
  clear hb
  go_wp2_with fail
  refine HI2.out.mono ?_
  rintro e w' ⟨rfl, rfl⟩
  go_wp2_with fail
  go_ret
  exact ⟨rfl, HB.out⟩
end Go.Proofs.YtilpbjcbffbjeaaGreatDoor
namespace Go.Proofs.YtilpbjcbffbjeaaGreatDoor
open Go.RowKit
set_option linter.unusedSectionVars false
variable [Avoid]
theorem overAt_mid (p x r t : List Nat) (k : Nat) (hk : k ≤ x.length) (ht : t.length = x.length - k) : overAt (p ++ x ++ r) (p.length + k) t = p ++ x.take k ++ t ++ r := by
  unfold overAt
  have h1 : (p ++ x ++ r).take (p.length + k) = p ++ x.take k := by
    rw [List.append_assoc, List.take_append, List.take_of_length_le (by omega), show p.length + k - p.length = k by omega, List.take_append, show k - x.length = 0 by omega, List.take_zero, List.append_nil]
  have h2 : (p ++ x ++ r).drop (p.length + k + t.length) = r := by
    rw [show p.length + k + t.length = (p ++ x).length by rw [List.length_append]; omega, List.drop_left]
  rw [h1, h2]
/-- So many bytes 0. -/
def zs (c : Nat) : ByteArray := strOf (List.replicate c 0)
theorem bs_zs (c : Nat) : bs (zs c) = List.replicate c 0 := bs_strOf _ (fun x hx => by rw [(List.mem_replicate.1 hx).2]; decide)
theorem size_zs (c : Nat) : (zs c).size = c := by unfold zs; rw [size_strOf, List.length_replicate]
theorem repeat_zs (c : Nat) : (⟨(Lib.repeatL [0] c).toArray⟩ : ByteArray) = zs c := by
  unfold zs strOf
  congr 2
  induction c with
  | zero => rfl
  | succ c ih =>
    rw [Lib.repeatL, ih, List.replicate_succ, List.map_cons]
    rfl
theorem repeatW (c : Nat) (w : World) (hc : c ≤ 140737488355328) :
    Calls Tryz.prog 115 #[.string ⟨#[0]⟩, .int .i64 (c : Nat)] w fun e w' => e = .returned (.string (zs c)) ∧ Below w.heap.size w w' := by
  refine (Tryz.strings_Repeat ⟨#[0]⟩ c w (by omega) (by show 1 * c ≤ _; omega)).mono fun e w' ⟨h1, h2⟩ => ⟨?_, h2⟩
  rw [h1, ← repeat_zs]
theorem overL_next (f : Fl) (cs : List Int) (i : Nat) (h : i < f.ws.length) (k n : Nat) (hk : kpt cs i (f.ws.getD i ⟨#[]⟩).size = k) (hn : (f.ws.getD i ⟨#[]⟩).size = n) (at_ : Nat) (ha : at_ = f.safe.size + (cat (f.ws.take i)).length) :
    overAt (overL f cs i) (at_ + k) (bs (zs (n - k))) = overL f cs (i + 1) := by
  have h1 := lftN_len f cs i (by omega)
  have hkl : k ≤ n := by rw [← hk, ← hn]; exact kpt_le _ _ _
  rw [overL_step f cs i h, overL_succ f cs i h, hk, hn, bs_zs]
  have h2 : at_ = ((lftN f cs i).1 ++ List.replicate (lftN f cs i).2 0).length := by rw [List.length_append, List.length_replicate, h1, ha]
  rw [h2, overAt_mid _ _ _ _ k (by rw [length_bs, hn]; exact hkl) (by rw [List.length_replicate, length_bs, hn])]
theorem lftN_end (f : Fl) (cs : List Int) (i : Nat) (h : i < f.ws.length) (k : Nat) (hk : kpt cs i (f.ws.getD i ⟨#[]⟩).size = k) (at_ : Nat) (ha : at_ = f.safe.size + (cat (f.ws.take i)).length) :
    (lftN f cs (i + 1)).1.length = if k = 0 then (lftN f cs i).1.length else at_ + k := by
  have h1 := lftN_len f cs i (by omega)
  have h2 := kpt_le cs i (f.ws.getD i ⟨#[]⟩).size
  rw [lftN_succ, hk]
  split
  · rfl
  · rw [List.length_append, List.length_append, List.length_replicate, List.length_take, length_bs, ha, ← h1]
    omega
theorem at_next (f : Fl) (i : Nat) (h : i < f.ws.length) (at_ n : Nat) (hn : (f.ws.getD i ⟨#[]⟩).size = n) (ha : at_ = f.safe.size + (cat (f.ws.take i)).length) : at_ + n = f.safe.size + (cat (f.ws.take (i + 1))).length := by
  have hc := cat_take_succ f.ws i h
  rw [show (ByteArray.empty : ByteArray) = ⟨#[]⟩ from rfl] at hc
  rw [hc, List.length_append, length_bs, hn, ha]
  omega
set_option maxRecDepth 100000 in
set_option maxHeartbeats 1600000 in
theorem leftW (f : Fl) (v cv : Value) (cs : List Int) (w : World) (h : WS w v f.ws) (hcs : Ints w cv cs) (hl : (rd f).size ≤ 140737488355328) (hn : f.ws.length ≤ 140737488355328) (hcn : cs.length ≤ 140737488355328) :
    Calls Tryz.prog 118 #[.agg #[.string f.safe, v], cv] w fun e w' => e = .returned (.string (left f cs)) ∧ Below w.heap.size w w' := by
  have hsz := size_rd f
  have hb0 : Below w.heap.size w (w.alloc (.cells #[.string f.safe, v] 97)) := (Below.refl _ _).alloc (Nat.le_refl _) _
  obtain ⟨W, hW⟩ : ∃ W, W = w.alloc (.cells #[.string f.safe, v] 97) := ⟨_, rfl⟩
  have c1 : W.cell? ⟨w.heap.size, 0, none⟩ = some (.string f.safe) := by rw [hW]; simp
  have c2 : W.cell? ⟨w.heap.size, 1, none⟩ = some v := by rw [hW]; simp
  have hWs : W.heap.size = w.heap.size + 1 := by rw [hW]; simp
  rw [← hW] at hb0
  have HB0 := Lib.hid hb0
  have HW := Lib.hid hW
  have HV := Lib.hid (h.below hb0)
  obtain ⟨p, vcap, rfl, hcell⟩ := (h.below hb0).strs.form
  have HCELL := Lib.hid hcell
  obtain ⟨cp, ccap, rfl, hccell⟩ := (hcs.below hb0).form
  have HCC := Lib.hid hccell
  obtain ⟨CN, hCN⟩ : ∃ n, n = cs.length := ⟨_, rfl⟩
  rw [← hCN]
  rw [← hCN] at hcn
  have HCN := Lib.hid hCN
  have HSZ := Lib.hid hsz
  have HWS := Lib.hid hWs
  have HR := Lib.hid (readW f _ W (h.below hb0) hl hn)
  have HC1 := Lib.hid c1
  have HC2 := Lib.hid c2
  clear hb0 hW h hcs hsz hWs c1 c2 hcell hccell hCN
  obtain ⟨M, hM⟩ : ∃ M, M = f.ws.length := ⟨_, rfl⟩
  have HM := Lib.hid hM
  have hMb : M ≤ 140737488355328 := by rw [hM]; exact hn
  rw [← hM] at HV HR HC2 HW ⊢
  clear hn hM
  go_enter Tryz.func118, Tryz.ntmps118
  have c1 : (w.alloc (.cells #[.string f.safe, .slice p M vcap] 97)).cell? ⟨w.heap.size, 0, none⟩ = some (.string f.safe) := by simp
  have c2 : (w.alloc (.cells #[.string f.safe, .slice p M vcap] 97)).cell? ⟨w.heap.size, 1, none⟩ = some (.slice p M vcap) := by simp
  go_wp2_with fail
  rw [← HW.out]
  clear c1 c2
  refine HR.out.mono ?_
  rintro e w1 ⟨rfl, hb1⟩
  have HB1 := Lib.hid hb1
  clear hb1
  obtain ⟨S, hS⟩ : ∃ S, S = rd f := ⟨_, rfl⟩
  rw [← hS]
  have HS := Lib.hid hS
  clear hS
  go_wp2_with (with_reducible refine wpList_string_bytes (o := ⟨some 13, _, _, _, _, _⟩) rfl 9 126 _ rfl Tryz.underlying9 Tryz.underlying126 Tryz.underlying5 S rfl ?_)
  intro vb w2 ho2 hb2
  obtain ⟨gB, capB, rfl, hlo⟩ := ho2
  rw [length_bs]
  have hb02 : Below W.heap.size W w2 := HB1.out.trans (hb2.mono HB1.out.size)
  have c1 : ∀ t : Grow w2, t.val.cell? ⟨w.heap.size, 0, none⟩ = some (.string f.safe) := fun t => t.cell ((hb02.cell (p := ⟨w.heap.size, 0, none⟩) (by show w.heap.size < _; rw [HWS.out]; omega)).trans HC1.out)
  have c2 : w2.cell? ⟨w.heap.size, 1, none⟩ = some (.slice p M vcap) := (hb02.cell (p := ⟨w.heap.size, 1, none⟩) (by show w.heap.size < _; rw [HWS.out]; omega)).trans HC2.out
  have HB02 := Lib.hid hb02
  have HLO := Lib.hid hlo
  have HC2B := Lib.hid c2
  have hgB := hlo.b
  have hs1 := HB1.out.size
  clear hb02 hb2 c2 hlo
  go_wp2_with fail
  refine wp_region_fam (by kernel_rfl) (by kernel_rfl) Grow.val (Grow.start w2) ?_
  repeat go_big_quiet_step (fail)
  refine wpQuiet_nil ?_
  intro t
  clear c1
  have c2 : t.val.cell? ⟨w.heap.size, 1, none⟩ = some (.slice p M vcap) := t.cell HC2B.out
  have HBT := Lib.hid (HB02.out.trans (t.below.mono HB02.out.size))
  have HLT := Lib.hid (HLO.out.grown (r := none) ⟨t.below.os, t.below.tape, t.below.output, t.below.size, fun k hk _ => t.below.block k hk⟩ (by simp))
  obtain ⟨w3, hw3⟩ : ∃ w3, w3 = t.val := ⟨_, rfl⟩
  rw [← hw3] at c2 HBT HLT ⊢
  clear hw3 t HB1 HB02 HLO HC2B
  have hsr : (rdL f).length = S.size := by rw [HS.out]; unfold rd; rw [size_strOf]
  have HSR := Lib.hid hsr
  have hlrd : LooseAt w3 w1.heap.size gB capB (overL f cs 0) := by rw [overL_zero, ← bs_rd, ← HS.out]; exact HLT.out
  have HL3 := Lib.hid hlrd
  have hSb : S.size ≤ 140737488355328 := by rw [HS.out]; exact hl
  have hcapS : S.size ≤ capB := by have := HLT.out.n; rw [length_bs] at this; exact this
  have hst3 : gB < w3.heap.size := HLT.out.lt
  clear hsr hlrd hl HLT
  go_wp2_with fail
  go_loopw [6, 7, 23] (fun va ve vi wr => ∃ (i a : Nat), i ≤ M ∧ vi = .int .i64 (i : Nat) ∧ a = f.safe.size + (cat (f.ws.take i)).length ∧ va = .int .i64 (a : Nat) ∧ ve = .int .i64 ((lftN f cs i).1.length : Nat) ∧ LooseAt wr w1.heap.size gB capB (overL f cs i) ∧ Below W.heap.size W wr) (fun _ _ vi _ => (M - intOf vi).toNat)
  case atStart => exact ⟨0, f.safe.size, by omega, rfl, by simp [cat], rfl, by simp [lftN, length_bs], HL3.out, HBT.out⟩
  case round =>
    obtain ⟨i, a, hi, rfl, ha, rfl, rfl, hlo, hbr⟩ := hrel
    have HA := Lib.hid ha
    have HLO := Lib.hid hlo
    have HBR := Lib.hid hbr
    have hlen := lftN_len f cs i (by rw [← HM.out]; exact hi)
    obtain ⟨E, hE⟩ : ∃ E, E = (lftN f cs i).1.length := ⟨_, rfl⟩
    rw [← hE] at hlen ⊢
    have hEa : E ≤ a := by omega
    have haS : a ≤ S.size := by
      have h1 := length_cat_take f.ws i
      have h2 := HSZ.out
      rw [← HS.out] at h2
      omega
    have HE := Lib.hid hE
    clear ha hlo hbr hlen hE
    by_cases hlt : i < M
    · obtain ⟨b, off, hp, hx⟩ := HCELL.out i (by rw [← HM.out]; exact hlt)
      subst hp
      obtain ⟨x, hxx⟩ : ∃ x, x = f.ws.getD i ⟨#[]⟩ := ⟨_, rfl⟩
      rw [show (ByteArray.empty : ByteArray) = ⟨#[]⟩ from rfl, ← hxx] at hx
      have hxw : wr.cell? ⟨b, off + i, none⟩ = some (.string x) := (HBR.out.cell (block_lt_of_cell hx)).trans hx
      have HXX := Lib.hid hxx
      obtain ⟨n, hn⟩ : ∃ n, n = x.size := ⟨_, rfl⟩
      have hnext := at_next f i (by rw [← HM.out]; exact hlt) a n (by rw [← hxx, hn]) HA.out
      have han : a + n ≤ S.size := by
        have h1 := length_cat_take f.ws (i + 1)
        have h2 := HSZ.out
        rw [← HS.out] at h2
        omega
      have HNX := Lib.hid hnext
      have HN := Lib.hid hn
      clear hx hxx hnext
      by_cases hci : i < CN
      · obtain ⟨cb, co, hcp, hcx⟩ := HCC.out i (by rw [← HCN.out]; exact hci)
        subst hcp
        have hcw := (HBR.out.cell (block_lt_of_cell hcx)).trans hcx
        obtain ⟨z, hz⟩ : ∃ z, z = cs.getD i 0 := ⟨_, rfl⟩
        rw [← hz] at hcw
        have HZ := Lib.hid hz
        clear hcx hz
        obtain ⟨k, hk⟩ : ∃ k, k = kpt cs i n := ⟨_, rfl⟩
        have hkz : min (max 0 z) (x.size : Int) = (k : Int) := by
          rw [hk, kpt, if_pos (by rw [← HCN.out]; exact hci), ← HZ.out, ← HN.out]
          omega
        have hkn : k ≤ n := by rw [hk]; exact kpt_le _ _ _
        have HK := Lib.hid hk
        have HKZ := Lib.hid hkz
        clear hk hkz
        obtain ⟨q, hq⟩ : ∃ q, q = n - k := ⟨_, rfl⟩
        have hqk : q + k = n := by omega
        have HQ := Lib.hid hq
        have C1 : Hid (∀ t : Grow wr, Calls Tryz.prog 115 #[.string ⟨#[0]⟩, .int .i64 (q : Nat)] t.val fun e w' => e = .returned (.string (zs q)) ∧ Below t.val.heap.size t.val w') := fun t => repeatW q t.val (by omega)
        have HQK := Lib.hid hqk
        have hqn : q ≤ n := by omega
        have hqn2 : q + k ≤ n := by omega
        have hqn3 : n ≤ q + k := by omega
        clear hq
        go_wp2_with fail
        rw [HKZ.out]
        have e0 : (x.size : Int) = (n : Int) := by rw [HN.out]
        have e1 : IntKind.i64.wrap ((a : Int) + (k : Int)) = (a : Int) + (k : Int) := IntWalk.i64_in _ (by omega)
        have e2 : (0 : Int) ≤ (a : Int) + (k : Int) := by omega
        have e3 : ((a : Int) + (k : Int)).toNat = a + k := by omega
        have e4 : (a : Int) + (k : Int) ≤ (S.size : Int) := by omega
        have e5 : IntKind.i64.wrap ((n : Int) - (k : Int)) = (q : Int) := by rw [IntWalk.i64_in _ (by omega)]; omega
        clear hqk
        refine wp_region_fam_tail 10 (by kernel_rfl) (by kernel_rfl) Grow.val (Grow.start wr) ?_
        simp only [List.take_succ_cons, List.take_zero, List.drop_succ_cons, List.drop_zero]
        repeat go_big_quiet_step ((with_reducible refine Calls.fam_of (C1.out _) (Grow.more _)))
        refine wpQuiet_nil ?_
        intro t
        have hlot := HLO.out.grown (r := none) ⟨t.below.os, t.below.tape, t.below.output, t.below.size, fun k hk _ => t.below.block k hk⟩ (by simp)
        refine wpList_copy_loose rfl _ _ 126 9 rfl Tryz.underlying126 (by kernel_rfl) _ _ _ (zs q) rfl rfl hlot (a + k) ?hA ?hle ?hfit ?_
        case hA =>
          intro h
          rw [size_zs] at h
          clear e1 e2 e3 e4 e5
          rw [if_neg (show ¬ capB = a + k by omega)]
        case hle => clear e1 e2 e3 e4 e5; rw [size_zs]; omega
        case hfit => clear e1 e2 e3 e4 e5; rw [length_overL f cs i (by rw [← HM.out]; omega), HSR.out, size_zs]; omega
        intro w5 hlo5 hg5
        have hover : overAt (overL f cs i) (a + k) (bs (zs q)) = overL f cs (i + 1) := by
          rw [HQ.out]
          exact overL_next f cs i (by rw [← HM.out]; exact hlt) k n (by rw [← HXX.out, ← HN.out]; exact HK.out.symm) (by rw [← HXX.out, HN.out]) a HA.out
        rw [hover] at hlo5
        have HLO5 := Lib.hid hlo5
        have HB5 := Lib.hid (HBR.out.trans ((t.below.mono (HBR.out.size)).trans (grown_below hg5 (by omega) (Nat.le_trans HBR.out.size t.below.size))))
        have hend := lftN_end f cs i (by rw [← HM.out]; exact hlt) k (by rw [← HXX.out, ← HN.out]; exact HK.out.symm) a HA.out
        rw [← HE.out] at hend
        have HEND := Lib.hid hend
        have hsz5 := size_zs q
        have HSZ5 := Lib.hid hsz5
        clear hlot hlo5 hg5 hover hend hsz5 e1 e2 e3 e4 e5 C1
        by_cases hk0 : 0 < k
        · go_wp2_with fail
          exact ⟨⟨i + 1, a + n, by omega, rfl, HNX.out, rfl, by rw [HEND.out, if_neg (by omega)]; rfl, HLO5.out, HB5.out⟩, by simp [intOf]; omega⟩
        · go_wp2_with fail
          exact ⟨⟨i + 1, a + n, by omega, rfl, HNX.out, rfl, by rw [HEND.out, if_pos (by omega)], HLO5.out, HB5.out⟩, by simp [intOf]; omega⟩
      · have HK : Hid (0 = kpt cs i n) := by unfold Hid kpt; rw [if_neg (by rw [← HCN.out]; exact hci)]
        obtain ⟨q, hq⟩ : ∃ q, q = n - 0 := ⟨_, rfl⟩
        have hqk : q = n := by omega
        have HQ := Lib.hid hq
        have C1 : Hid (∀ t : Grow wr, Calls Tryz.prog 115 #[.string ⟨#[0]⟩, .int .i64 (n : Nat)] t.val fun e w' => e = .returned (.string (zs q)) ∧ Below t.val.heap.size t.val w') := fun t => by rw [hqk]; exact repeatW n t.val (by omega)
        have HQK := Lib.hid hqk
        have hqn : q ≤ n := by omega
        have hqn2 : n ≤ q := by omega
        clear hq hqk
        go_wp2_with fail
        have e0 : (x.size : Int) = (n : Int) := by rw [HN.out]
        have e4 : (a : Int) ≤ (S.size : Int) := by omega
        refine wp_region_fam_tail 10 (by kernel_rfl) (by kernel_rfl) Grow.val (Grow.start wr) ?_
        simp only [List.take_succ_cons, List.take_zero, List.drop_succ_cons, List.drop_zero]
        repeat go_big_quiet_step ((with_reducible refine Calls.fam_of (C1.out _) (Grow.more _)))
        refine wpQuiet_nil ?_
        intro t
        have hlot := HLO.out.grown (r := none) ⟨t.below.os, t.below.tape, t.below.output, t.below.size, fun k hk _ => t.below.block k hk⟩ (by simp)
        refine wpList_copy_loose rfl _ _ 126 9 rfl Tryz.underlying126 (by kernel_rfl) _ _ _ (zs q) rfl rfl hlot (a + 0) ?hA ?hle ?hfit ?_
        case hA =>
          intro h
          rw [size_zs] at h
          rw [if_neg (show ¬ capB = a by omega), Nat.add_zero]
        case hle => rw [size_zs]; omega
        case hfit => rw [length_overL f cs i (by rw [← HM.out]; omega), HSR.out, size_zs]; omega
        intro w5 hlo5 hg5
        have hover : overAt (overL f cs i) (a + 0) (bs (zs q)) = overL f cs (i + 1) := by
          rw [HQ.out]
          exact overL_next f cs i (by rw [← HM.out]; exact hlt) 0 n (by rw [← HXX.out, ← HN.out]; exact HK.out.symm) (by rw [← HXX.out, HN.out]) a HA.out
        rw [hover] at hlo5
        have HLO5 := Lib.hid hlo5
        have HB5 := Lib.hid (HBR.out.trans ((t.below.mono (HBR.out.size)).trans (grown_below hg5 (by omega) (Nat.le_trans HBR.out.size t.below.size))))
        have hend := lftN_end f cs i (by rw [← HM.out]; exact hlt) 0 (by rw [← HXX.out, ← HN.out]; exact HK.out.symm) a HA.out
        rw [← HE.out] at hend
        have HEND := Lib.hid hend
        have hsz5 := size_zs q
        have HSZ5 := Lib.hid hsz5
        clear hlot hlo5 hg5 hover hend hsz5 e4 C1
        go_wp2_with fail
        exact ⟨⟨i + 1, a + n, by omega, rfl, HNX.out, rfl, by rw [HEND.out, if_pos rfl], HLO5.out, HB5.out⟩, by simp [intOf]; omega⟩
    · have hiM : i = M := by omega
      have hEE : E = (leftL f cs).length := by rw [HE.out, hiM, HM.out]; rfl
      have hfin := overL_end f cs
      have hES : E ≤ S.size := by have h1 := length_leftL f cs; rw [HSR.out] at h1; omega
      have hcE : E ≤ capB := by omega
      have HFIN := Lib.hid hfin
      have HEE := Lib.hid hEE
      have HIM := Lib.hid hiM
      have e1 : (E : Int) ≤ (capB : Int) := by omega
      clear hfin hEE hiM
      go_wp2_with (with_reducible refine wpList_bytes_string (o := ⟨some 65, _, _, _, _, _⟩) rfl 126 9 _ rfl Tryz.underlying126 Tryz.underlying5 Tryz.underlying9 gB 0 E E ?hx (leftL f cs) ?hl ?hc ?_)
      case hx => rfl
      case hl => exact HEE.out.symm
      case hc =>
        intro j hj
        have h1 := HLO.out.cells j (by rw [length_overL f cs i (by rw [← HM.out]; omega), HSR.out]; omega)
        have h2 : (leftL f cs).getD j 0 = (overL f cs i).getD j 0 := by
          rw [← HFIN.out, getD_take _ _ _ (by rw [← HEE.out]; exact hj), HIM.out, HM.out]
        rw [Nat.zero_add, h1, h2]
      go_ret
      exact ⟨rfl, HB0.out.trans (HBR.out.mono HB0.out.size)⟩
end Go.Proofs.YtilpbjcbffbjeaaGreatDoor
namespace Go.Proofs.YtilpbjcbffbjeaaGreatDoor
open Go.RowKit
set_option linter.unusedSectionVars false
variable [Avoid]
theorem infoStr : (Tryz.prog.info? 9).map (fun i => (i.zero, i.size, i.bytes)) = some (some (.string ⟨#[]⟩), 1, 16) := by kernel_rfl
/-- Strings of the call's own. -/
def OwnsS (w : World) (base : Nat) (v : Value) (ss : List ByteArray) : Prop := w.ownsRow base 9 1 v ss.length (ss.map Value.string)
theorem OwnsS.wsG {w : World} {base : Nat} {v : Value} {ss : List ByteArray} (h : OwnsS w base v ss) (hB : Avoid.B ≤ base) : WS w v ss := by
  have h1 : w.ownsRow 0 9 1 v ss.length (ss.map Value.string) := by
    refine ⟨h.1, ?_⟩
    rcases h.2 with h1 | ⟨g, cap, cur, h1, _, h2⟩
    · exact .inl h1
    · exact .inr ⟨g, cap, cur, h1, Nat.zero_le _, h2⟩
  unfold WS Row1
  rw [List.length_map]
  exact ⟨h1, fun k hk hS => by have h2 := World.ownsRow.lt h k hk; have h3 := Avoid.lt k hS; omega⟩
omit [Avoid] in
theorem OwnsS.ws {w : World} {base : Nat} {v : Value} {ss : List ByteArray} (h : OwnsS w base v ss) : @WS avoidNone w v ss := @OwnsS.wsG avoidNone _ _ _ _ h (Nat.zero_le _)
theorem OwnsS.alloc {w : World} {base : Nat} {v : Value} {ss : List ByteArray} (h : OwnsS w base v ss) (o : Obj) : OwnsS (w.alloc o) base v ss := World.ownsRow.alloc h o
theorem OwnsS.block {w : World} {base : Nat} {v : Value} {ss : List ByteArray} (h : OwnsS w base v ss) {k : Nat} (hk : v.ownBlock = some k) : base ≤ k ∧ k < w.heap.size := World.ownsRow.lt h k hk
theorem OwnsS.kept {w w' : World} {base : Nat} {v : Value} {ss : List ByteArray} (h : OwnsS w base v ss) (hb : Below w.heap.size w w') : OwnsS w' base v ss :=
  World.ownsRow.kept (row := none) h ⟨hb.os, hb.tape, hb.output, hb.size, fun k hk _ => hb.block k hk⟩ (by cases v.ownBlock <;> simp)
theorem wpList_append_s {ops : Array Oper} {rest : List Oper} {o : Oper} {a : Act} {w : World} {Q : Exit → Act → World → Prop} {base : Nat} {v : Value} {ss : List ByteArray}
    (hgd : o.guard = none) (s x : Operand) (ho : o.op = .call { callee := .builtin .append, args := #[s, x], argTypes := #[28, 28] })
    (hs : a.eval s = v) (hown : OwnsS w base v ss) (ad : Addr) (c : Nat) (new : ByteArray) (hx : a.eval x = .slice (some ad) 1 c)
    (hnew : w.cell? ad = some (.string new)) (hsz : ss.length ≤ 1048576) (hbase : base ≤ w.heap.size)
    (h : ∀ v' w', OwnsS w' base v' (ss ++ [new]) → w.grownBy w' v.ownBlock → wpList Tryz.prog ops Q rest (a.put o.dst v') w') : wpList Tryz.prog ops Q (o :: rest) a w := by
  obtain ⟨i0, hi0, hz0, hz1, hz2⟩ := info_parts infoStr
  refine wpList_append_own_at w hgd s x 28 ho base 9 i0 (.string ⟨#[]⟩) 1 16 Tryz.underlying28 hi0 hz0 hz1 hz2 rfl (by decide) v ss.length (ss.map Value.string) hs hown ad 1 c [.string new] hx rfl ?_ (by simp [Value.oneCell']) (by unfold maxLen; omega) (by omega) hbase ?_
  · intro j u hu
    have hj : j = 0 := by have := (List.getElem?_eq_some_iff.1 hu).1; simp at this; exact this
    subst hj
    rw [show u = .string new by simpa using hu.symm]
    rw [show ad.add 0 = ad by unfold Addr.add; rfl]
    exact hnew
  · intro v' w' h1 h2 _ _
    refine h v' w' ?_ h2
    unfold OwnsS
    rw [List.length_append, List.map_append]
    exact h1
theorem makeS (u : World) (n : Nat) (hn : n ≤ 1048576) : (Instr.makeSlice 28 (.int .i64 0) (.int .i64 (n : Int))).run Tryz.prog u = .ok (.slice (some ⟨u.heap.size, 0, none⟩) 0 n) (u.alloc (.cells (madeCells #[.string ⟨#[]⟩] n) 9)) := by
  obtain ⟨i0, hi0, hz0, hz1, hz2⟩ := info_parts infoStr
  have h := run_make (P := Tryz.prog) u 28 9 i0 (.string ⟨#[]⟩) Tryz.underlying28 hi0 hz0 .i64 .i64 0 (n : Int) (by omega) (by omega) (by rw [hz2]; omega) (by omega)
  rw [hz1] at h
  simpa [Value.cells] using h
theorem makeS_owns (u : World) (n : Nat) (hn : n ≤ 1048576) : OwnsS (u.alloc (.cells (madeCells #[.string ⟨#[]⟩] n) 9)) u.heap.size (.slice (some ⟨u.heap.size, 0, none⟩) 0 n) [] := by
  refine ⟨rfl, .inr ⟨u.heap.size, n, _, rfl, Nat.le_refl _, heap_alloc_new u _, Nat.zero_le _, by unfold maxLen; omega, ?_, by simp⟩⟩
  simp [madeCells]
/-- What all files are, as they are read. -/
def Dk.files (D : Dk) : List ByteArray := D.l.map rd
def Dk.after (D : Dk) (css : List (List Int)) : List ByteArray := (List.range D.l.length).map fun i => left (D.l.getD i Fl.zero) (css.getD i [])
theorem length_files (D : Dk) : D.files.length = D.l.length := by unfold Dk.files; rw [List.length_map]
theorem length_after (D : Dk) (css : List (List Int)) : (D.after css).length = D.l.length := by unfold Dk.after; rw [List.length_map, List.length_range]
theorem getD_files (D : Dk) (i : Nat) (h : i < D.l.length) : D.files.getD i ⟨#[]⟩ = rd (D.l.getD i Fl.zero) := by
  unfold Dk.files
  rw [List.getD_eq_getElem?_getD, List.getElem?_map, List.getElem?_eq_getElem h, List.getD_eq_getElem?_getD, List.getElem?_eq_getElem h]
  rfl
theorem getD_after (D : Dk) (css : List (List Int)) (i : Nat) (h : i < D.l.length) : (D.after css).getD i ⟨#[]⟩ = left (D.l.getD i Fl.zero) (css.getD i []) := by
  unfold Dk.after
  rw [List.getD_eq_getElem?_getD, List.getElem?_map, List.getElem?_range h]
  rfl
theorem take_files (D : Dk) (i : Nat) (h : i < D.l.length) : D.files.take (i + 1) = D.files.take i ++ [rd (D.l.getD i Fl.zero)] := by
  rw [take_succ_getD D.files i ⟨#[]⟩ (by rw [length_files]; exact h), getD_files D i h]
theorem take_after (D : Dk) (css : List (List Int)) (i : Nat) (h : i < D.l.length) : (D.after css).take (i + 1) = (D.after css).take i ++ [left (D.l.getD i Fl.zero) (css.getD i [])] := by
  rw [take_succ_getD (D.after css) i ⟨#[]⟩ (by rw [length_after]; exact h), getD_after D css i h]
set_option maxRecDepth 100000 in
set_option maxHeartbeats 800000 in
theorem filesW {b g cap : Nat} {D : Dk} {w : World} (h : IsDisk w b g cap D) (hok : DOk D) :
    Calls Tryz.prog 39 #[.pointer (some ⟨b, 0, none⟩)] w fun e w' => ∃ v, e = .returned v ∧ OwnsS w' w.heap.size v D.files ∧ Below w.heap.size w w' := by
  have h1 := h.cells.1
  have h2 := h.fs.len
  have h3 := h.fs.capm
  have hn := hok.n
  unfold maxLen at h3
  have hmk := fun u => makeS u D.l.length (by omega)
  have HID := Lib.hid h
  have HOK := Lib.hid hok
  have h1a : ∀ o, (w.alloc o).cell? ⟨b, 0, none⟩ = some (.slice (some ⟨g, 0, none⟩) D.l.length cap) := fun o => (World.cell?_alloc_lt _ _ _ (by simpa using h.lt)).trans h1
  have h1b := h1a (.cells (madeCells #[.string ⟨#[]⟩] D.l.length) 9)
  clear h hok h1a
  go_enter Tryz.func39, Tryz.ntmps39
  go_wp2_with fail
  obtain ⟨W, hW⟩ : ∃ W, W = w.alloc (.cells (madeCells #[.string ⟨#[]⟩] D.l.length) 9) := ⟨_, rfl⟩
  have ho := makeS_owns w D.l.length (by omega)
  have hb : Below w.heap.size w W := by rw [hW]; exact (Below.refl _ _).alloc (Nat.le_refl _) _
  rw [← hW] at ho ⊢
  have HO := Lib.hid ho
  have HB := Lib.hid hb
  clear hW ho hb h1b hmk h1
  go_loopw [3, 17] (fun v vi wr => ∃ i : Nat, i ≤ D.l.length ∧ vi = .int .i64 (i : Nat) ∧ OwnsS wr w.heap.size v (D.files.take i) ∧ Below w.heap.size w wr) (fun _ vi _ => (D.l.length - intOf vi).toNat)
  case atStart => exact ⟨0, by omega, rfl, HO.out, HB.out⟩
  case round =>
    obtain ⟨i, hi, rfl, ho, hb⟩ := hrel
    have HO2 := Lib.hid ho
    have HB2 := Lib.hid hb
    have hfs := (HID.out.below hb).fs
    by_cases hlt : i < D.l.length
    · have c1 := hfs.safe i hlt
      obtain ⟨v, c2, hws⟩ := hfs.ws i hlt
      have hsz := HOK.out.size i hlt
      have hmn := HOK.out.many i hlt
      have htk := take_files D i hlt
      obtain ⟨f, hf⟩ : ∃ f, f = D.l.getD i Fl.zero := ⟨_, rfl⟩
      rw [← hf] at c1 hws hsz hmn htk
      obtain ⟨p, c, rfl, _⟩ := hws.form
      have HR := Lib.hid (fun u hb => readW f (.slice p f.ws.length c) u (hws.below hb) (by omega) (by omega))
      obtain ⟨m, hm⟩ : ∃ m, m = f.ws.length := ⟨_, rfl⟩
      rw [← hm] at c2 HR
      have HTK := Lib.hid htk
      clear ho hb hfs hf hws htk hm hmn
      go_wp2_with fail
      refine (HR.out _ ((Below.refl _ _).alloc (Nat.le_refl _) _)).mono ?_
      rintro e w3 ⟨rfl, hb3⟩
      have hb3' : Below wr.heap.size wr w3 := ((Below.refl _ _).alloc (Nat.le_refl _) _).trans (hb3.mono (by simp))
      have HO3 := Lib.hid (HO2.out.kept hb3')
      have HB3 := Lib.hid (HB2.out.trans (hb3'.mono HB2.out.size))
      clear hb3 hb3' HO2 HB2 HR c1 c2
      go_wp2_with (at_builtin; refine wpList_append_s rfl _ _ rfl rfl (HO3.out.alloc _) ⟨w3.heap.size, 0, none⟩ 1 (rd f) rfl ?d1 ?d2 ?d3 ?_)
      case d1 => simp
      case d2 => have := List.length_take_le i D.files; omega
      case d3 => have := HB3.out.size; simp; omega
      intro v5 w5 ho5 hg5
      rw [← HTK.out] at ho5
      have HO5 := Lib.hid ho5
      have HB5 := Lib.hid ((HB3.out.alloc HB3.out.size _).grown hg5 (by have := HB3.out.size; simp; omega) (fun k hk => (HO3.out.block hk).1))
      clear ho5 hg5 HO3 HB3
      go_wp2_with fail
      exact ⟨⟨i + 1, by omega, rfl, HO5.out, HB5.out⟩, by simp [intOf]; omega⟩
    · have hfin : D.files.take i = D.files := List.take_of_length_le (by rw [length_files]; omega)
      rw [hfin] at HO2
      clear ho hb hfs hfin
      go_wp2_with fail
      go_ret
      exact ⟨_, rfl, HO2.out, HB2.out⟩
set_option maxRecDepth 100000 in
set_option maxHeartbeats 800000 in
theorem afterW {b g cap : Nat} {D : Dk} {w : World} (h : IsDisk w b g cap D) (hok : DOk D) (cv : Value) (css : List (List Int)) (hcs : Rss w cv css) (hcl : ∀ i, (css.getD i []).length ≤ 140737488355328) :
    Calls Tryz.prog 93 #[.pointer (some ⟨b, 0, none⟩), cv] w fun e w' => ∃ v, e = .returned v ∧ OwnsS w' w.heap.size v (D.after css) ∧ Below w.heap.size w w' := by
  have h1 := h.cells.1
  have h2 := h.fs.len
  have h3 := h.fs.capm
  have hn := hok.n
  unfold maxLen at h3
  have hmk := fun u => makeS u D.l.length (by omega)
  have HID := Lib.hid h
  have HOK := Lib.hid hok
  have HCL := Lib.hid hcl
  have h1a : ∀ o, (w.alloc o).cell? ⟨b, 0, none⟩ = some (.slice (some ⟨g, 0, none⟩) D.l.length cap) := fun o => (World.cell?_alloc_lt _ _ _ (by simpa using h.lt)).trans h1
  have h1b := h1a (.cells (madeCells #[.string ⟨#[]⟩] D.l.length) 9)
  obtain ⟨cp, ccap, rfl, hcell⟩ := hcs
  have HCC := Lib.hid hcell
  obtain ⟨CN, hCN⟩ : ∃ n, n = css.length := ⟨_, rfl⟩
  rw [← hCN]
  have HCN := Lib.hid hCN
  clear h hok h1a hcell hCN hcl
  go_enter Tryz.func93, Tryz.ntmps93
  go_wp2_with fail
  obtain ⟨W, hW⟩ : ∃ W, W = w.alloc (.cells (madeCells #[.string ⟨#[]⟩] D.l.length) 9) := ⟨_, rfl⟩
  have ho := makeS_owns w D.l.length (by omega)
  have hb : Below w.heap.size w W := by rw [hW]; exact (Below.refl _ _).alloc (Nat.le_refl _) _
  rw [← hW] at ho ⊢
  have HO := Lib.hid ho
  have HB := Lib.hid hb
  clear hW ho hb h1b hmk h1
  go_loopw [5, 20] (fun v vi wr => ∃ i : Nat, i ≤ D.l.length ∧ vi = .int .i64 (i : Nat) ∧ OwnsS wr w.heap.size v ((D.after css).take i) ∧ Below w.heap.size w wr) (fun _ vi _ => (D.l.length - intOf vi).toNat)
  case atStart => exact ⟨0, by omega, rfl, HO.out, HB.out⟩
  case round =>
    obtain ⟨i, hi, rfl, ho, hb⟩ := hrel
    have HO2 := Lib.hid ho
    have HB2 := Lib.hid hb
    have hfs := (HID.out.below hb).fs
    by_cases hlt : i < D.l.length
    · have c1 := hfs.safe i hlt
      obtain ⟨v, c2, hws⟩ := hfs.ws i hlt
      have hsz := HOK.out.size i hlt
      have hmn := HOK.out.many i hlt
      have htk := take_after D css i hlt
      have hcln := HCL.out i
      obtain ⟨f, hf⟩ : ∃ f, f = D.l.getD i Fl.zero := ⟨_, rfl⟩
      rw [← hf] at c1 hws hsz hmn htk
      obtain ⟨p, c, rfl, _⟩ := hws.form
      obtain ⟨cs, hcs⟩ : ∃ cs, cs = css.getD i [] := ⟨_, rfl⟩
      rw [← hcs] at htk hcln
      have HR : Hid (∀ u v, Below wr.heap.size wr u → Ints u v cs → Calls Tryz.prog 118 #[.agg #[.string f.safe, .slice p f.ws.length c], v] u fun e w' => e = .returned (.string (left f cs)) ∧ Below u.heap.size u w') := fun u v hb hv => leftW f (.slice p f.ws.length c) v cs u (hws.below hb) hv (by omega) (by omega) hcln
      obtain ⟨m, hm⟩ : ∃ m, m = f.ws.length := ⟨_, rfl⟩
      rw [← hm] at c2 HR
      have HTK := Lib.hid htk
      have HCS := Lib.hid hcs
      clear ho hb hfs hf hws htk hm hmn hcs hcln
      by_cases hci : i < CN
      · obtain ⟨cb, co, u, hcp, hcx, hcu⟩ := HCC.out i (by rw [← HCN.out]; exact hci)
        subst hcp
        rw [← HCS.out] at hcu
        have hb0 : Below w.heap.size w (wr.alloc (.cells #[.string f.safe, .slice p m c] 97)) := HB2.out.alloc HB2.out.size _
        have hcw := (hb0.cell (block_lt_of_cell hcx)).trans hcx
        have HCU := Lib.hid (hcu.below hb0)
        obtain ⟨up, uc, rfl, _⟩ := hcu.form
        clear hcx hcu hb0
        go_wp2_with fail
        refine (HR.out _ _ ((Below.refl _ _).alloc (Nat.le_refl _) _) HCU.out).mono ?_
        rintro e w3 ⟨rfl, hb3⟩
        have hb3' : Below wr.heap.size wr w3 := ((Below.refl _ _).alloc (Nat.le_refl _) _).trans (hb3.mono (by simp))
        have HO3 := Lib.hid (HO2.out.kept hb3')
        have HB3 := Lib.hid (HB2.out.trans (hb3'.mono HB2.out.size))
        clear hb3 hb3' HO2 HB2 HR c1 c2 hcw HCU
        go_wp2_with (at_builtin; refine wpList_append_s rfl _ _ rfl rfl (HO3.out.alloc _) ⟨w3.heap.size, 0, none⟩ 1 (left f cs) rfl ?d1 ?d2 ?d3 ?_)
        case d1 => simp
        case d2 => have := List.length_take_le i (D.after css); omega
        case d3 => have := HB3.out.size; simp; omega
        intro v5 w5 ho5 hg5
        rw [← HTK.out] at ho5
        have HO5 := Lib.hid ho5
        have HB5 := Lib.hid ((HB3.out.alloc HB3.out.size _).grown hg5 (by have := HB3.out.size; simp; omega) (fun k hk => (HO3.out.block hk).1))
        clear ho5 hg5 HO3 HB3
        go_wp2_with fail
        exact ⟨⟨i + 1, by omega, rfl, HO5.out, HB5.out⟩, by simp [intOf]; omega⟩
      · have hcs0 : cs = [] := by rw [HCS.out, List.getD_eq_getElem?_getD, List.getElem?_eq_none (by rw [← HCN.out]; omega)]; rfl
        have HR2 : Hid (∀ u, Below wr.heap.size wr u → Calls Tryz.prog 118 #[.agg #[.string f.safe, .slice p m c], .slice none 0 0] u fun e w' => e = .returned (.string (left f cs)) ∧ Below u.heap.size u w') := fun u hb => HR.out u _ hb (by rw [hcs0]; exact Ints.nil u)
        clear hcs0
        go_wp2_with fail
        refine (HR2.out _ ((Below.refl _ _).alloc (Nat.le_refl _) _)).mono ?_
        rintro e w3 ⟨rfl, hb3⟩
        have hb3' : Below wr.heap.size wr w3 := ((Below.refl _ _).alloc (Nat.le_refl _) _).trans (hb3.mono (by simp))
        have HO3 := Lib.hid (HO2.out.kept hb3')
        have HB3 := Lib.hid (HB2.out.trans (hb3'.mono HB2.out.size))
        clear hb3 hb3' HO2 HB2 HR HR2 c1 c2
        go_wp2_with (at_builtin; refine wpList_append_s rfl _ _ rfl rfl (HO3.out.alloc _) ⟨w3.heap.size, 0, none⟩ 1 (left f cs) rfl ?d1 ?d2 ?d3 ?_)
        case d1 => simp
        case d2 => have := List.length_take_le i (D.after css); omega
        case d3 => have := HB3.out.size; simp; omega
        intro v5 w5 ho5 hg5
        rw [← HTK.out] at ho5
        have HO5 := Lib.hid ho5
        have HB5 := Lib.hid ((HB3.out.alloc HB3.out.size _).grown hg5 (by have := HB3.out.size; simp; omega) (fun k hk => (HO3.out.block hk).1))
        clear ho5 hg5 HO3 HB3
        go_wp2_with fail
        exact ⟨⟨i + 1, by omega, rfl, HO5.out, HB5.out⟩, by simp [intOf]; omega⟩
    · have hfin : i = D.l.length := by omega
      rw [List.take_of_length_le (by rw [length_after]; omega)] at ho
      have HO3 := Lib.hid ho
      clear ho hb hfs hfin
      go_wp2_with fail
      go_ret
      exact ⟨_, rfl, HO3.out, HB2.out⟩
end Go.Proofs.YtilpbjcbffbjeaaGreatDoor
namespace Go.Proofs.YtilpbjcbffbjeaaGreatDoor
open Go.RowKit
set_option linter.unusedSectionVars false
variable [Avoid]
/-- The files while the power goes: the first i are what is left. -/
def Dk.dieTo (D : Dk) (css : List (List Int)) : Nat → List Fl
  | 0 => D.l
  | i + 1 => (D.dieTo css i).set i ⟨(D.after css).getD i ⟨#[]⟩, []⟩
theorem length_dieTo (D : Dk) (css : List (List Int)) (i : Nat) : (D.dieTo css i).length = D.l.length := by
  induction i with
  | zero => rfl
  | succ i ih => rw [Dk.dieTo, List.length_set, ih]
theorem dieTo_getD (D : Dk) (css : List (List Int)) (i : Nat) (j : Nat) (hj : j < D.l.length) : (D.dieTo css i).getD j Fl.zero = if j < i then ⟨(D.after css).getD j ⟨#[]⟩, []⟩ else D.l.getD j Fl.zero := by
  induction i with
  | zero => rw [if_neg (by omega)]; rfl
  | succ i ih =>
    rw [Dk.dieTo]
    by_cases e : i = j
    · subst e
      rw [getD_set_self _ _ _ _ (by rw [length_dieTo]; exact hj), if_pos (by omega)]
    · rw [getD_set_ne _ _ _ _ _ e, ih]
      by_cases h : j < i
      · rw [if_pos h, if_pos (by omega)]
      · rw [if_neg h, if_neg (by omega)]
def Dk.died (D : Dk) (css : List (List Int)) : Dk := ⟨(D.after css).map (fun s => ⟨s, []⟩), 0, D.ch, true⟩
theorem ext_getD {α : Type} (a b : List α) (d : α) (hl : a.length = b.length) (h : ∀ j, j < a.length → a.getD j d = b.getD j d) : a = b := by
  refine List.ext_getElem hl fun j h1 h2 => ?_
  have := h j h1
  rwa [List.getD_eq_getElem?_getD, List.getD_eq_getElem?_getD, List.getElem?_eq_getElem h1, List.getElem?_eq_getElem h2] at this
theorem dieTo_end (D : Dk) (css : List (List Int)) : D.dieTo css D.l.length = (D.after css).map (fun s => ⟨s, []⟩) := by
  refine ext_getD _ _ Fl.zero (by rw [length_dieTo, List.length_map, length_after]) fun j hj => ?_
  rw [length_dieTo] at hj
  rw [dieTo_getD D css _ j hj, if_pos hj, List.getD_eq_getElem?_getD, List.getD_eq_getElem?_getD, List.getElem?_map, List.getElem?_eq_getElem (by rw [length_after]; exact hj)]
  rfl
set_option maxRecDepth 100000 in
set_option maxHeartbeats 800000 in
theorem diesW {b g cap : Nat} {D : Dk} {w : World} (h : IsDisk w b g cap D) (hok : DOk D) (cv : Value) (css : List (List Int)) (hcs : Rss w cv css) (hcl : ∀ i, (css.getD i []).length ≤ 140737488355328) :
    Calls Tryz.prog 64 #[.pointer (some ⟨b, 0, none⟩), cv] w fun e w' => e = .returned (.int .i64 2) ∧ IsDisk w' b g cap (D.died css) ∧ Chg (fun k => k = b ∨ k = g) w w' := by
  have HA := Lib.hid (afterW h hok cv css hcs hcl)
  have hn := hok.n
  have h2 := h.fs.len
  have h3 := h.fs.capm
  unfold maxLen at h3
  have hbl := h.lt
  have hgl := h.fs.lt
  have hne := h.ne
  have HID := Lib.hid h
  obtain ⟨cp, ccap, rfl, _⟩ := hcs
  clear h hok hcl
  go_enter Tryz.func64, Tryz.ntmps64
  go_wp2_with fail
  refine HA.out.mono ?_
  rintro e w1 ⟨v, rfl, ho, hb⟩
  obtain ⟨p, ac, hv, hacl, hcell⟩ := @Row1.form avoidNone _ _ _ _ ho.ws
  rw [List.length_map, length_after] at hv hacl hcell
  subst hv
  have HID1 := Lib.hid (HID.out.below hb)
  have hge : ∀ gA, p = some ⟨gA, 0, none⟩ → w.heap.size ≤ gA := fun gA e => by subst e; exact (ho.block (k := gA) rfl).1
  have HCELL := Lib.hid hcell
  have HGE := Lib.hid hge
  have HC1 := Lib.hid (Chg.of_below (fun k => k = b ∨ k = g) hb)
  have hs1 := hb.size
  clear ho hb hcell hge HA HID
  go_wp2_with fail
  go_loopw [11] (fun vi wr => ∃ i : Nat, i ≤ D.l.length ∧ vi = .int .i64 (i : Nat) ∧ IsDisk wr b g cap ⟨D.dieTo css i, D.armed, D.ch, D.dead⟩ ∧ Chg (fun k => k = g) w1 wr) (fun vi _ => (D.l.length - intOf vi).toNat)
  case atStart => exact ⟨0, by omega, rfl, HID1.out, Chg.refl _ _⟩
  case round =>
    obtain ⟨i, hi, rfl, hid, hc⟩ := hrel
    have HIDR := Lib.hid hid
    have HC := Lib.hid hc
    by_cases hlt : i < D.l.length
    · obtain ⟨gA, hp, hx⟩ := HCELL.out i hlt
      have hgA := HGE.out gA hp
      subst hp
      obtain ⟨x, hxx⟩ : ∃ x, x = (D.after css).getD i ⟨#[]⟩ := ⟨_, rfl⟩
      have hx2 : wr.cell? ⟨gA, i, none⟩ = some (.string x) := by
        refine hc.cell (by show ¬ gA = g; omega) (hx.trans ?_)
        rw [List.getElem?_map, List.getElem?_eq_getElem (by rw [length_after]; exact hlt), hxx, List.getD_eq_getElem?_getD, List.getElem?_eq_getElem (by rw [length_after]; exact hlt)]
        rfl
      have c0 := hid.cells.1
      have hl := length_dieTo D css i
      rw [hl] at c0
      have c1 := hid.fs.safe i (by rw [hl]; exact hlt)
      obtain ⟨u, c2, _⟩ := hid.fs.ws i (by rw [hl]; exact hlt)
      have f1 := hid.fs.free (i * 2)
      have f2 := hid.fs.free (i * 2 + 1)
      have hnew := hid.files (l' := (D.dieTo css i).set i ⟨x, []⟩) ((Chg.setCell (fun k => k = g) wr (j := i * 2) rfl (.string x)).trans (Chg.setCell (fun k => k = g) _ (j := i * 2 + 1) rfl (.slice none 0 0))) (hid.fs.setBoth (f := i) (by rw [hl]; exact hlt) x) (by rw [List.length_set])
      rw [hxx] at hnew
      have HNEW : Hid (IsDisk ((wr.setCell ⟨g, i * 2, none⟩ (.string x)).setCell ⟨g, i * 2 + 1, none⟩ (.slice none 0 0)) b g cap ⟨D.dieTo css (i + 1), D.armed, D.ch, D.dead⟩) := by rw [hxx]; exact hnew
      have HC2 := Lib.hid (hc.trans ((Chg.setCell (fun k => k = g) wr (j := i * 2) rfl (.string x)).trans (Chg.setCell (fun k => k = g) _ (j := i * 2 + 1) rfl (.slice none 0 0))))
      clear hx hxx hid hc hl hnew
      go_wp2_with fail
      exact ⟨⟨i + 1, by omega, rfl, HNEW.out, HC2.out⟩, by simp [intOf]; omega⟩
    · have hie : i = D.l.length := by omega
      rw [hie, dieTo_end] at hid
      have c1 := hid.cells.2.1
      have c2 := hid.cells.2.2.2
      have f1 := hid.free 1
      have f2 := hid.free 3
      have hfin := (hid.setArmed 0).setDead true
      have HF := Lib.hid hfin
      have HCF := Lib.hid (HC1.out.trans ((hc.mono (fun k _ h => Or.inr h)).trans ((Chg.setCell (fun k => k = b ∨ k = g) wr (j := 1) (.inl rfl) (.int .i64 ((0 : Nat) : Int))).trans (Chg.setCell (fun k => k = b ∨ k = g) _ (j := 3) (.inl rfl) (.bool true)))))
      clear hid hc hie hfin
      go_wp2_with fail
      go_ret
      exact ⟨rfl, HF.out, HCF.out⟩
end Go.Proofs.YtilpbjcbffbjeaaGreatDoor
