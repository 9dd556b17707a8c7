/- Walks of the program's disk: what only reads. -/
import Derived.Test.YtamaefnlicloaaaDoorDMem
import Derived.Test.YtamaefnlicloaaaDoorShelf
namespace Go.Proofs.YtamaefnlicloaaaDoor
set_option linter.unusedVariables false
open Go.RowKit
theorem join_empty (l : List (List UInt8)) : Lib.join l [] = l.flatten := by
  induction l with
  | nil => rfl
  | cons x l ih =>
    cases l with
    | nil => simp [Lib.join_one]
    | cons y l => simp [Lib.join, List.intercalate, List.intersperse] at ih ⊢; exact ih
theorem strOf_cat (ss : List ByteArray) : (⟨((ss.map (·.data.toList)).flatten).toArray⟩ : ByteArray) = strOf (cat ss) := by
  unfold strOf cat
  congr 2
  induction ss with
  | nil => rfl
  | cons s ss ih => simp [bs, List.map_flatMap, ih, Function.comp_def] at *
theorem joinW (v : Value) (ss : List ByteArray) (w : World) (h : WS w v ss) (hl : (cat ss).length ≤ 140737488355328) (hn : ss.length ≤ 140737488355328) :
    Calls Tryd.prog 63 #[v, .string ⟨#[]⟩] w fun e w' => e = .returned (.string (strOf (cat ss))) ∧ Below w.heap.size w w' := by
  obtain ⟨p, cap, rfl, hcap, hc⟩ := Row1.form h
  rw [List.length_map] at hc ⊢
  rw [List.length_map] at hcap
  by_cases h0 : ss.length = 0
  · rw [h0]
    have e : ss = [] := List.eq_nil_of_length_eq_zero h0
    subst e
    exact (Tryd.strings_Join_none p cap ⟨#[]⟩ w).mono fun e w' ⟨h1, h2⟩ => ⟨h1, h2 ▸ Below.refl _ _⟩
  · obtain ⟨g, rfl, _⟩ := hc 0 (by omega)
    have hcell : ∀ (j : Nat) x, ss[j]? = some x → w.cell? ⟨g, 0 + j, none⟩ = some (.string x) := fun j x hx => by
      have hj : j < ss.length := (List.getElem?_eq_some_iff.1 hx).1
      obtain ⟨g', hg, hcell⟩ := hc j hj
      have : g = g' := by injection hg with hg; injection hg
      subst this
      rw [Nat.zero_add, hcell, List.getElem?_map, hx]; rfl
    have hb : g < w.heap.size := by
      have := hcell 0 (ss[0]'(by omega)) (List.getElem?_eq_getElem (by omega))
      exact block_lt_of_cell this
    have he : (Lib.join (ss.map (·.data.toList)) (⟨#[]⟩ : ByteArray).data.toList).length ≤ 140737488355328 := by
      have h1 : (⟨#[]⟩ : ByteArray).data.toList = [] := rfl
      rw [h1, join_empty]
      have h2 := congrArg ByteArray.size (strOf_cat ss)
      rw [size_strOf] at h2
      have h3 : (⟨((ss.map (·.data.toList)).flatten).toArray⟩ : ByteArray).size = ((ss.map (·.data.toList)).flatten).length := by show Array.size _ = _; simp
      omega
    refine (Tryd.strings_Join g 0 cap ss ⟨#[]⟩ w hcell hb hn hcap he).mono fun e w' ⟨h1, h2⟩ => ⟨?_, h2⟩
    rw [h1, show (⟨#[]⟩ : ByteArray).data.toList = [] from rfl, join_empty, strOf_cat]
set_option maxHeartbeats 400000 in
theorem isYes {b g cap : Nat} {D : Dk} {w : World} (h : IsDisk w b g cap D) (f : Nat) (hf : f < D.l.length) :
    Calls Tryd.prog 49 #[.pointer (some ⟨b, 0, none⟩), .int .i64 (f : Nat)] w fun e w' => e = .returned (.bool true) ∧ w = w' := by
  have h1 := h.cells.1
  have h2 := h.fs.len
  have h3 := h.fs.capm
  unfold maxLen at h3
  clear h
  go_enter Tryd.func49, Tryd.ntmps49
  go_wp2_with fail
  go_ret
  exact ⟨rfl, rfl⟩
set_option maxHeartbeats 400000 in
theorem isNo {b g cap : Nat} {D : Dk} {w : World} (h : IsDisk w b g cap D) (f : Int) (hf : f < 0 ∨ D.l.length ≤ f) :
    Calls Tryd.prog 49 #[.pointer (some ⟨b, 0, none⟩), .int .i64 f] w fun e w' => e = .returned (.bool false) ∧ w = w' := by
  have h1 := h.cells.1
  have h2 := h.fs.len
  have h3 := h.fs.capm
  unfold maxLen at h3
  clear h
  rcases hf with hf | hf
  · go_enter Tryd.func49, Tryd.ntmps49
    go_wp2_with fail
    go_ret
    exact ⟨rfl, rfl⟩
  · have hd : decide (f < (D.l.length : Int)) = false := by simpa using hf
    go_enter Tryd.func49, Tryd.ntmps49
    go_wp2_with fail
    go_ret
    exact ⟨rfl, rfl⟩
set_option maxHeartbeats 400000 in
theorem readW (f : Fl) (v : Value) (w : World) (h : WS w v f.ws) (hl : (rd f).size ≤ 140737488355328) (hn : f.ws.length ≤ 140737488355328) :
    Calls Tryd.prog 50 #[.agg #[.string f.safe, v]] w fun e w' => e = .returned (.string (rd f)) ∧ Below w.heap.size w w' := by
  have hsz := size_rd f
  have hb0 : Below w.heap.size w (w.alloc (.cells #[.string f.safe, v] 81)) := (Below.refl _ _).alloc (Nat.le_refl _) _
  obtain ⟨W, hW⟩ : ∃ W, W = w.alloc (.cells #[.string f.safe, v] 81) := ⟨_, rfl⟩
  have c1 : ∀ t : Grow W, t.val.cell? ⟨w.heap.size, 0, none⟩ = some (.string f.safe) := fun t => t.cell (by rw [hW]; simp)
  have c2 : ∀ t : Grow W, t.val.cell? ⟨w.heap.size, 1, none⟩ = some v := fun t => t.cell (by rw [hW]; simp)
  rw [← hW] at hb0
  have C1 : Hid (∀ t : Grow W, Calls Tryd.prog 63 #[v, .string ⟨#[]⟩] t.val fun e w' => e = .returned (.string (strOf (cat f.ws))) ∧ Below t.val.heap.size t.val w') := fun t =>
    joinW v f.ws t.val ((h.below hb0).below t.below) (by omega) hn
  have hrd : f.safe ++ strOf (cat f.ws) = rd f := bs_inj (by rw [bs_append, bs_rd, bs_strOf _ (cat_lt _)]; rfl)
  have hok : ¬ 9223372036854775807 < f.safe.size + (strOf (cat f.ws)).size := by rw [size_strOf]; omega
  have HRD := Lib.hid hrd
  have HB0 := Lib.hid hb0
  have HW := Lib.hid hW
  clear hrd hb0 hW h hl hsz
  go_enter Tryd.func50, Tryd.ntmps50
  go_wp2_with fail
  rw [← HW.out]
  refine wp_region_fam (by kernel_rfl) (by kernel_rfl) Grow.val (Grow.start W) ?_
  repeat go_big_quiet_step ((with_reducible refine Calls.fam_of (C1.out _) (Grow.more _)))
  refine wpQuiet_nil ?_
  intro t
  clear c1 c2 C1
  go_wp2_with fail
  go_ret
  exact ⟨congrArg (fun x => Ending.returned (.string x)) HRD.out, HB0.out.trans (t.below.mono HB0.out.size)⟩
/-- A disk's bounds. -/
structure DOk (D : Dk) : Prop where
  n : D.l.length ≤ 32
  pos : 0 < D.l.length
  size : ∀ f, f < D.l.length → (rd (D.l.getD f Fl.zero)).size ≤ 262144
  many : ∀ f, f < D.l.length → (D.l.getD f Fl.zero).ws.length ≤ 1099511627776
  armed : D.armed ≤ 9223372036854775807
  chl : ∀ i, (D.ch.getD i []).length ≤ 140737488355328
set_option maxHeartbeats 400000 in
theorem sizeYes {b g cap : Nat} {D : Dk} {w : World} (h : IsDisk w b g cap D) (hok : DOk D) (f : Nat) (hf : f < D.l.length) :
    Calls Tryd.prog 20 #[.pointer (some ⟨b, 0, none⟩), .int .i64 (f : Nat)] w fun e w' => e = .returned (.int .i64 ((rd (D.l.getD f Fl.zero)).size : Nat)) ∧ Below w.heap.size w w' := by
  have HI := Lib.hid (isYes h f hf)
  have h1 := h.cells.1
  have h2 := h.fs.len
  have h3 := h.fs.capm
  unfold maxLen at h3
  obtain ⟨v, h5, h6⟩ := h.fs.ws f hf
  have h4 := h.fs.safe f hf
  obtain ⟨x, hx⟩ : ∃ x, x = D.l.getD f Fl.zero := ⟨_, rfl⟩
  rw [← hx] at h4 h6 ⊢
  have h7 := hok.size f hf
  have h8 := hok.many f hf
  rw [← hx] at h7 h8
  have HR := Lib.hid (readW x v w h6 (by omega) (by omega))
  clear h h6 hx hok h8
  go_enter Tryd.func20, Tryd.ntmps20
  go_wp2_with fail
  refine HI.out.mono ?_
  rintro e w' ⟨rfl, rfl⟩
  go_wp2_with fail
  refine HR.out.mono ?_
  rintro e w' ⟨rfl, hb⟩
  go_wp2_with fail
  go_ret
  exact ⟨rfl, hb⟩
set_option maxHeartbeats 400000 in
theorem sizeNo {b g cap : Nat} {D : Dk} {w : World} (h : IsDisk w b g cap D) (f : Int) (hf : f < 0 ∨ D.l.length ≤ f) :
    Calls Tryd.prog 20 #[.pointer (some ⟨b, 0, none⟩), .int .i64 f] w fun e w' => e = .returned (.int .i64 (-1)) ∧ w = w' := by
  have HI := Lib.hid (isNo h f hf)
  clear h hf
  go_enter Tryd.func20, Tryd.ntmps20
  go_wp2_with fail
  refine HI.out.mono ?_
  rintro e w' ⟨rfl, rfl⟩
  go_wp2_with fail
  go_ret
  exact ⟨rfl, rfl⟩
set_option maxHeartbeats 400000 in
theorem countW {b g cap : Nat} {D : Dk} {w : World} (h : IsDisk w b g cap D) :
    Calls Tryd.prog 57 #[.pointer (some ⟨b, 0, none⟩)] w fun e w' => e = .returned (.int .i64 (D.l.length : Nat)) ∧ w = w' := by
  have h1 := h.cells.1
  clear h
  go_enter Tryd.func57, Tryd.ntmps57
  go_wp2_with fail
  go_ret
  exact ⟨rfl, rfl⟩
set_option maxHeartbeats 400000 in
theorem deadW {b g cap : Nat} {D : Dk} {w : World} (h : IsDisk w b g cap D) :
    Calls Tryd.prog 27 #[.pointer (some ⟨b, 0, none⟩)] w fun e w' => e = .returned (.bool D.dead) ∧ w = w' := by
  have h1 := h.cells.2.2.2
  clear h
  go_enter Tryd.func27, Tryd.ntmps27
  go_wp2_with fail
  go_ret
  exact ⟨rfl, rfl⟩
set_option maxHeartbeats 400000 in
theorem goesNo {b g cap : Nat} {D : Dk} {w : World} (h : IsDisk w b g cap D) (ha : D.armed = 0) :
    Calls Tryd.prog 61 #[.pointer (some ⟨b, 0, none⟩)] w fun e w' => e = .returned (.bool false) ∧ w = w' := by
  have h1 := h.cells.2.1
  rw [ha] at h1
  have h2 : w.cell? ⟨b, 1, none⟩ = some (.int .i64 0) := h1
  clear h h1 ha
  go_enter Tryd.func61, Tryd.ntmps61
  go_wp2_with fail
  go_ret
  exact ⟨rfl, rfl⟩
set_option maxHeartbeats 400000 in
theorem goesYes {b g cap : Nat} {D : Dk} {w : World} (h : IsDisk w b g cap D) (n : Nat) (ha : D.armed = n + 1) (hn : n < 9223372036854775807) :
    Calls Tryd.prog 61 #[.pointer (some ⟨b, 0, none⟩)] w fun e w' => e = .returned (.bool (decide (n = 0))) ∧ IsDisk w' b g cap ⟨D.l, n, D.ch, D.dead⟩ ∧ Chg (fun k => k = b) w w' := by
  have h1 := h.cells.2.1
  rw [ha] at h1
  have h2 : w.cell? ⟨b, 1, none⟩ = some (.int .i64 ((n : Int) + 1)) := h1
  have h3 := h.free 1
  have h4 : (((n : Int) + 1) == 0) = false := by rw [beq_eq_false_iff_ne]; omega
  have HH := Lib.hid (And.intro (h.setArmed n) (Chg.setCell (fun k => k = b) w (j := 1) rfl (.int .i64 (n : Nat))))
  clear h h1 ha
  by_cases h0 : n = 0
  · subst h0
    go_enter Tryd.func61, Tryd.ntmps61
    go_wp2_with fail
    go_ret
    exact ⟨rfl, HH.out⟩
  · have h5 : ((n : Int) == 0) = false := by rw [beq_eq_false_iff_ne]; omega
    go_enter Tryd.func61, Tryd.ntmps61
    go_wp2_with fail
    go_ret
    exact ⟨by rw [decide_eq_false h0]; rfl, HH.out⟩
set_option maxHeartbeats 400000 in
theorem reviveW {b g cap : Nat} {D : Dk} {w : World} (h : IsDisk w b g cap D) :
    Calls Tryd.prog 29 #[.pointer (some ⟨b, 0, none⟩)] w fun e w' => e = .returned (.tuple #[]) ∧ IsDisk w' b g cap ⟨D.l, 0, D.ch, false⟩ ∧ Chg (fun k => k = b) w w' := by
  have h1 := h.cells.2.1
  have h2 := h.cells.2.2.2
  have h3 := h.free 1
  have h4 := h.free 3
  have HH := Lib.hid (And.intro ((h.setDead false).setArmed 0) ((Chg.setCell (fun k => k = b) w (j := 3) rfl (.bool false)).trans (Chg.setCell (fun k => k = b) _ (j := 1) rfl (.int .i64 ((0 : Nat) : Int)))))
  clear h
  go_enter Tryd.func29, Tryd.ntmps29
  go_wp2_with fail
  go_end0
  exact ⟨rfl, HH.out⟩
/-! Why a call is refused. -/
set_option maxHeartbeats 400000 in
theorem refDead {b g cap : Nat} {D : Dk} {w : World} (h : IsDisk w b g cap D) (hd : D.dead = true) (k f n : Int) :
    Calls Tryd.prog 60 #[.pointer (some ⟨b, 0, none⟩), .int .i64 k, .int .i64 f, .int .i64 n] w fun e w' => e = .returned (.int .i64 2) ∧ w = w' := by
  have h1 := h.cells.2.2.2
  rw [hd] at h1
  clear h hd
  go_enter Tryd.func60, Tryd.ntmps60
  go_wp2_with fail
  go_ret
  exact ⟨rfl, rfl⟩
set_option maxHeartbeats 400000 in
theorem refRead {b g cap : Nat} {D : Dk} {w : World} (h : IsDisk w b g cap D) (hd : D.dead = false) (f : Nat) (hf : f < D.l.length) (n : Int) :
    Calls Tryd.prog 60 #[.pointer (some ⟨b, 0, none⟩), .int .i64 2, .int .i64 (f : Nat), .int .i64 n] w fun e w' => e = .returned (.int .i64 0) ∧ w = w' := by
  have h1 := h.cells.2.2.2
  rw [hd] at h1
  have HI := Lib.hid (isYes h f hf)
  clear h hd
  go_enter Tryd.func60, Tryd.ntmps60
  go_wp2_with fail
  refine HI.out.mono ?_
  rintro e w' ⟨rfl, rfl⟩
  go_wp2_with fail
  go_ret
  exact ⟨rfl, rfl⟩
set_option maxHeartbeats 800000 in
theorem refNo {b g cap : Nat} {D : Dk} {w : World} (h : IsDisk w b g cap D) (hd : D.dead = false) (k : Int) (hk : k = 0 ∨ k = 1 ∨ k = 2) (f : Int) (hf : f < 0 ∨ D.l.length ≤ f) (n : Int) :
    Calls Tryd.prog 60 #[.pointer (some ⟨b, 0, none⟩), .int .i64 k, .int .i64 f, .int .i64 n] w fun e w' => e = .returned (.int .i64 160) ∧ w = w' := by
  have h1 := h.cells.2.2.2
  rw [hd] at h1
  have HI := Lib.hid (isNo h f hf)
  clear h hd hf
  rcases hk with rfl | rfl | rfl
  · go_enter Tryd.func60, Tryd.ntmps60
    go_wp2_with fail
    refine HI.out.mono ?_
    rintro e w' ⟨rfl, rfl⟩
    go_wp2_with fail
    refine HI.out.mono ?_
    rintro e w' ⟨rfl, rfl⟩
    go_wp2_with fail
    refine HI.out.mono ?_
    rintro e w' ⟨rfl, rfl⟩
    go_wp2_with fail
    go_ret
    exact ⟨rfl, rfl⟩
  · go_enter Tryd.func60, Tryd.ntmps60
    go_wp2_with fail
    refine HI.out.mono ?_
    rintro e w' ⟨rfl, rfl⟩
    go_wp2_with fail
    refine HI.out.mono ?_
    rintro e w' ⟨rfl, rfl⟩
    go_wp2_with fail
    go_ret
    exact ⟨rfl, rfl⟩
  · go_enter Tryd.func60, Tryd.ntmps60
    go_wp2_with fail
    refine HI.out.mono ?_
    rintro e w' ⟨rfl, rfl⟩
    go_wp2_with fail
    go_ret
    exact ⟨rfl, rfl⟩
set_option maxHeartbeats 800000 in
theorem refWrite {b g cap : Nat} {D : Dk} {w : World} (h : IsDisk w b g cap D) (hok : DOk D) (hd : D.dead = false) (f : Nat) (hf : f < D.l.length) (n : Nat) (hn : n < 9223372036854775807) :
    Calls Tryd.prog 60 #[.pointer (some ⟨b, 0, none⟩), .int .i64 1, .int .i64 (f : Nat), .int .i64 (n : Nat)] w fun e w' => e = .returned (.int .i64 (if 262144 < (rd (D.l.getD f Fl.zero)).size + n then 161 else 0)) ∧ Below w.heap.size w w' := by
  have h1 := h.cells.2.2.2
  rw [hd] at h1
  have HI := Lib.hid (isYes h f hf)
  have HS := Lib.hid (sizeYes h hok f hf)
  have hs := hok.size f hf
  have HID := Lib.hid h
  obtain ⟨z, hz⟩ : ∃ z, z = (rd (D.l.getD f Fl.zero)).size := ⟨_, rfl⟩
  rw [← hz] at HS hs ⊢
  clear h hd hz
  by_cases hc : 262144 < z + n
  · rw [if_pos hc]
    have hx : (262144 : Int) - (z : Int) < (n : Int) := by omega
    go_enter Tryd.func60, Tryd.ntmps60
    go_wp2_with fail
    refine HI.out.mono ?_
    rintro e w' ⟨rfl, rfl⟩
    go_wp2_with fail
    refine HS.out.mono ?_
    rintro e w1 ⟨rfl, hb⟩
    have HI2 := Lib.hid (isYes (HID.out.below hb) f hf)
    have HB := Lib.hid hb
    clear hb
    go_wp2_with fail
    refine HI2.out.mono ?_
    rintro e w' ⟨rfl, rfl⟩
    go_wp2_with fail
    go_ret
    exact ⟨rfl, HB.out⟩
  · rw [if_neg hc]
    have hx : ¬ (262144 : Int) - (z : Int) < (n : Int) := by omega
    go_enter Tryd.func60, Tryd.ntmps60
    go_wp2_with fail
    refine HI.out.mono ?_
    rintro e w' ⟨rfl, rfl⟩
    go_wp2_with fail
    refine HS.out.mono ?_
    rintro e w1 ⟨rfl, hb⟩
    have HI2 := Lib.hid (isYes (HID.out.below hb) f hf)
    have HB := Lib.hid hb
    clear hb
    go_wp2_with fail
    refine HI2.out.mono ?_
    rintro e w' ⟨rfl, rfl⟩
    go_wp2_with fail
    go_ret
    exact ⟨rfl, HB.out⟩
set_option maxHeartbeats 800000 in
theorem refCut1 {b g cap : Nat} {D : Dk} {w : World} (h : IsDisk w b g cap D) (hok : DOk D) (hd : D.dead = false) (f : Nat) (hf : f < D.l.length) (n : Int) (ha : 0 < (D.l.getD f Fl.zero).ws.length) :
    Calls Tryd.prog 60 #[.pointer (some ⟨b, 0, none⟩), .int .i64 0, .int .i64 (f : Nat), .int .i64 n] w fun e w' => e = .returned (.int .i64 162) ∧ Below w.heap.size w w' := by
  have h1 := h.cells.2.2.2
  rw [hd] at h1
  have HI := Lib.hid (isYes h f hf)
  have HS := Lib.hid (sizeYes h hok f hf)
  have hs := hok.size f hf
  have HID := Lib.hid h
  have h0 := h.cells.1
  have h2 := h.fs.len
  have h3 := h.fs.capm
  unfold maxLen at h3
  have h4 := h.fs.safe f hf
  obtain ⟨v, h5, h6⟩ := h.fs.ws f hf
  obtain ⟨p, c, rfl, _⟩ := h6.form
  obtain ⟨m, hm⟩ : ∃ m, m = (D.l.getD f Fl.zero).ws.length := ⟨_, rfl⟩
  obtain ⟨sf, hsf⟩ : ∃ m, m = (D.l.getD f Fl.zero).safe := ⟨_, rfl⟩
  obtain ⟨z, hz⟩ : ∃ z, z = (rd (D.l.getD f Fl.zero)).size := ⟨_, rfl⟩
  rw [← hm] at h5 ha
  rw [← hsf] at h4 
  rw [← hz] at HS hs
  have hx : ¬ (262144 : Int) - (z : Int) < 0 := by omega
  have hy : decide ((0 : Int) < (m : Int)) = true := by simp; omega
  clear h h6 hd hz hm hsf
  go_enter Tryd.func60, Tryd.ntmps60
  go_wp2_with fail
  refine HI.out.mono ?_
  rintro e w' ⟨rfl, rfl⟩
  go_wp2_with fail
  refine HI.out.mono ?_
  rintro e w' ⟨rfl, rfl⟩
  go_wp2_with fail
  refine HS.out.mono ?_
  rintro e w1 ⟨rfl, hb⟩
  have HI2 := Lib.hid (isYes (HID.out.below hb) f hf)
  have HB := Lib.hid hb
  clear hb
  go_wp2_with fail
  refine HI2.out.mono ?_
  rintro e w' ⟨rfl, rfl⟩
  go_wp2_with fail
  go_ret
  exact ⟨rfl, HB.out⟩
set_option maxHeartbeats 800000 in
theorem refCut2 {b g cap : Nat} {D : Dk} {w : World} (h : IsDisk w b g cap D) (hok : DOk D) (hd : D.dead = false) (f : Nat) (hf : f < D.l.length) (n : Int) (ha : (D.l.getD f Fl.zero).ws.length = 0) (hn : n < 0) :
    Calls Tryd.prog 60 #[.pointer (some ⟨b, 0, none⟩), .int .i64 0, .int .i64 (f : Nat), .int .i64 n] w fun e w' => e = .returned (.int .i64 162) ∧ Below w.heap.size w w' := by
  have h1 := h.cells.2.2.2
  rw [hd] at h1
  have HI := Lib.hid (isYes h f hf)
  have HS := Lib.hid (sizeYes h hok f hf)
  have hs := hok.size f hf
  have HID := Lib.hid h
  have h0 := h.cells.1
  have h2 := h.fs.len
  have h3 := h.fs.capm
  unfold maxLen at h3
  have h4 := h.fs.safe f hf
  obtain ⟨v, h5, h6⟩ := h.fs.ws f hf
  obtain ⟨p, c, rfl, _⟩ := h6.form
  obtain ⟨m, hm⟩ : ∃ m, m = (D.l.getD f Fl.zero).ws.length := ⟨_, rfl⟩
  obtain ⟨sf, hsf⟩ : ∃ m, m = (D.l.getD f Fl.zero).safe := ⟨_, rfl⟩
  obtain ⟨z, hz⟩ : ∃ z, z = (rd (D.l.getD f Fl.zero)).size := ⟨_, rfl⟩
  rw [← hm] at h5 ha
  rw [← hsf] at h4 
  rw [← hz] at HS hs
  have hx : ¬ (262144 : Int) - (z : Int) < 0 := by omega
  have hy : m = 0 := ha
  subst hy
  clear h h6 hd hz hm hsf
  go_enter Tryd.func60, Tryd.ntmps60
  go_wp2_with fail
  refine HI.out.mono ?_
  rintro e w' ⟨rfl, rfl⟩
  go_wp2_with fail
  refine HI.out.mono ?_
  rintro e w' ⟨rfl, rfl⟩
  go_wp2_with fail
  refine HS.out.mono ?_
  rintro e w1 ⟨rfl, hb⟩
  have HI2 := Lib.hid (isYes (HID.out.below hb) f hf)
  have HB := Lib.hid hb
  clear hb
  go_wp2_with fail
  refine HI2.out.mono ?_
  rintro e w' ⟨rfl, rfl⟩
  go_wp2_with fail
  go_ret
  exact ⟨rfl, HB.out⟩
set_option maxHeartbeats 800000 in
theorem refCut3 {b g cap : Nat} {D : Dk} {w : World} (h : IsDisk w b g cap D) (hok : DOk D) (hd : D.dead = false) (f : Nat) (hf : f < D.l.length) (n : Int) (ha : (D.l.getD f Fl.zero).ws.length = 0) (hn : 0 ≤ n) (hb : (D.l.getD f Fl.zero).safe.size < n) :
    Calls Tryd.prog 60 #[.pointer (some ⟨b, 0, none⟩), .int .i64 0, .int .i64 (f : Nat), .int .i64 n] w fun e w' => e = .returned (.int .i64 162) ∧ Below w.heap.size w w' := by
  have h1 := h.cells.2.2.2
  rw [hd] at h1
  have HI := Lib.hid (isYes h f hf)
  have HS := Lib.hid (sizeYes h hok f hf)
  have hs := hok.size f hf
  have HID := Lib.hid h
  have h0 := h.cells.1
  have h2 := h.fs.len
  have h3 := h.fs.capm
  unfold maxLen at h3
  have h4 := h.fs.safe f hf
  obtain ⟨v, h5, h6⟩ := h.fs.ws f hf
  obtain ⟨p, c, rfl, _⟩ := h6.form
  obtain ⟨m, hm⟩ : ∃ m, m = (D.l.getD f Fl.zero).ws.length := ⟨_, rfl⟩
  obtain ⟨sf, hsf⟩ : ∃ m, m = (D.l.getD f Fl.zero).safe := ⟨_, rfl⟩
  obtain ⟨z, hz⟩ : ∃ z, z = (rd (D.l.getD f Fl.zero)).size := ⟨_, rfl⟩
  rw [← hm] at h5 ha
  rw [← hsf] at h4 hb
  rw [← hz] at HS hs
  have hx : ¬ (262144 : Int) - (z : Int) < 0 := by omega
  have hy : m = 0 := ha
  subst hy
  clear h h6 hd hz hm hsf
  go_enter Tryd.func60, Tryd.ntmps60
  go_wp2_with fail
  refine HI.out.mono ?_
  rintro e w' ⟨rfl, rfl⟩
  go_wp2_with fail
  refine HI.out.mono ?_
  rintro e w' ⟨rfl, rfl⟩
  go_wp2_with fail
  refine HS.out.mono ?_
  rintro e w1 ⟨rfl, hb⟩
  have HI2 := Lib.hid (isYes (HID.out.below hb) f hf)
  have HB := Lib.hid hb
  clear hb
  go_wp2_with fail
  refine HI2.out.mono ?_
  rintro e w' ⟨rfl, rfl⟩
  go_wp2_with fail
  go_ret
  exact ⟨rfl, HB.out⟩
set_option maxHeartbeats 800000 in
theorem refCut {b g cap : Nat} {D : Dk} {w : World} (h : IsDisk w b g cap D) (hok : DOk D) (hd : D.dead = false) (f : Nat) (hf : f < D.l.length) (n : Int) (ha : (D.l.getD f Fl.zero).ws.length = 0) (hn : 0 ≤ n) (hb : n ≤ (D.l.getD f Fl.zero).safe.size) :
    Calls Tryd.prog 60 #[.pointer (some ⟨b, 0, none⟩), .int .i64 0, .int .i64 (f : Nat), .int .i64 n] w fun e w' => e = .returned (.int .i64 0) ∧ Below w.heap.size w w' := by
  have h1 := h.cells.2.2.2
  rw [hd] at h1
  have HI := Lib.hid (isYes h f hf)
  have HS := Lib.hid (sizeYes h hok f hf)
  have hs := hok.size f hf
  have HID := Lib.hid h
  have h0 := h.cells.1
  have h2 := h.fs.len
  have h3 := h.fs.capm
  unfold maxLen at h3
  have h4 := h.fs.safe f hf
  obtain ⟨v, h5, h6⟩ := h.fs.ws f hf
  obtain ⟨p, c, rfl, _⟩ := h6.form
  obtain ⟨m, hm⟩ : ∃ m, m = (D.l.getD f Fl.zero).ws.length := ⟨_, rfl⟩
  obtain ⟨sf, hsf⟩ : ∃ m, m = (D.l.getD f Fl.zero).safe := ⟨_, rfl⟩
  obtain ⟨z, hz⟩ : ∃ z, z = (rd (D.l.getD f Fl.zero)).size := ⟨_, rfl⟩
  rw [← hm] at h5 ha
  rw [← hsf] at h4 hb
  rw [← hz] at HS hs
  have hx : ¬ (262144 : Int) - (z : Int) < 0 := by omega
  have hy : m = 0 := ha
  subst hy
  clear h h6 hd hz hm hsf
  go_enter Tryd.func60, Tryd.ntmps60
  go_wp2_with fail
  refine HI.out.mono ?_
  rintro e w' ⟨rfl, rfl⟩
  go_wp2_with fail
  refine HI.out.mono ?_
  rintro e w' ⟨rfl, rfl⟩
  go_wp2_with fail
  refine HS.out.mono ?_
  rintro e w1 ⟨rfl, hb⟩
  have HI2 := Lib.hid (isYes (HID.out.below hb) f hf)
  have HB := Lib.hid hb
  clear hb
  go_wp2_with fail
  refine HI2.out.mono ?_
  rintro e w' ⟨rfl, rfl⟩
  go_wp2_with fail
  go_ret
  exact ⟨rfl, HB.out⟩
end Go.Proofs.YtamaefnlicloaaaDoor
