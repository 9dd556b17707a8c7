/- Walks of the program's disk: Files, After. -/
import Derived.Test.YtamaefnlicloaaaDoorDLeft
namespace Go.Proofs.YtamaefnlicloaaaDoor
open Go.RowKit
theorem infoStr : (Tryd.prog.info? 9).map (fun i => (i.zero, i.size, i.bytes)) = some (some (.string ⟨#[]⟩), 1, 16) := by kernel_rfl
/-- Strings of the call's own. -/
def OwnsS (w : World) (base : Nat) (v : Value) (ss : List ByteArray) : Prop := w.ownsRow base 9 1 v ss.length (ss.map Value.string)
theorem OwnsS.ws {w : World} {base : Nat} {v : Value} {ss : List ByteArray} (h : OwnsS w base v ss) : WS w v ss := by
  have h1 : w.ownsRow 0 9 1 v ss.length (ss.map Value.string) := by
    refine ⟨h.1, ?_⟩
    rcases h.2 with h1 | ⟨g, cap, cur, h1, _, h2⟩
    · exact .inl h1
    · exact .inr ⟨g, cap, cur, h1, Nat.zero_le _, h2⟩
  unfold WS Row1
  rw [List.length_map]
  exact h1
theorem OwnsS.alloc {w : World} {base : Nat} {v : Value} {ss : List ByteArray} (h : OwnsS w base v ss) (o : Obj) : OwnsS (w.alloc o) base v ss := World.ownsRow.alloc h o
theorem OwnsS.block {w : World} {base : Nat} {v : Value} {ss : List ByteArray} (h : OwnsS w base v ss) {k : Nat} (hk : v.ownBlock = some k) : base ≤ k ∧ k < w.heap.size := World.ownsRow.lt h k hk
theorem OwnsS.kept {w w' : World} {base : Nat} {v : Value} {ss : List ByteArray} (h : OwnsS w base v ss) (hb : Below w.heap.size w w') : OwnsS w' base v ss :=
  World.ownsRow.kept (row := none) h ⟨hb.os, hb.tape, hb.output, hb.size, fun k hk _ => hb.block k hk⟩ (by cases v.ownBlock <;> simp)
theorem wpList_append_s {ops : Array Oper} {rest : List Oper} {o : Oper} {a : Act} {w : World} {Q : Exit → Act → World → Prop} {base : Nat} {v : Value} {ss : List ByteArray}
    (hgd : o.guard = none) (s x : Operand) (ho : o.op = .call { callee := .builtin .append, args := #[s, x], argTypes := #[32, 32] })
    (hs : a.eval s = v) (hown : OwnsS w base v ss) (ad : Addr) (c : Nat) (new : ByteArray) (hx : a.eval x = .slice (some ad) 1 c)
    (hnew : w.cell? ad = some (.string new)) (hsz : ss.length ≤ 1048576) (hbase : base ≤ w.heap.size)
    (h : ∀ v' w', OwnsS w' base v' (ss ++ [new]) → w.grownBy w' v.ownBlock → wpList Tryd.prog ops Q rest (a.put o.dst v') w') : wpList Tryd.prog ops Q (o :: rest) a w := by
  obtain ⟨i0, hi0, hz0, hz1, hz2⟩ := info_parts infoStr
  refine wpList_append_own_at w hgd s x 32 ho base 9 i0 (.string ⟨#[]⟩) 1 16 Tryd.underlying32 hi0 hz0 hz1 hz2 rfl (by decide) v ss.length (ss.map Value.string) hs hown ad 1 c [.string new] hx rfl ?_ (by simp [Value.oneCell']) (by unfold maxLen; omega) (by omega) hbase ?_
  · intro j u hu
    have hj : j = 0 := by have := (List.getElem?_eq_some_iff.1 hu).1; simp at this; exact this
    subst hj
    rw [show u = .string new by simpa using hu.symm]
    rw [show ad.add 0 = ad by unfold Addr.add; rfl]
    exact hnew
  · intro v' w' h1 h2 _ _
    refine h v' w' ?_ h2
    unfold OwnsS
    rw [List.length_append, List.map_append]
    exact h1
theorem makeS (u : World) (n : Nat) (hn : n ≤ 1048576) : (Instr.makeSlice 32 (.int .i64 0) (.int .i64 (n : Int))).run Tryd.prog u = .ok (.slice (some ⟨u.heap.size, 0, none⟩) 0 n) (u.alloc (.cells (madeCells #[.string ⟨#[]⟩] n) 9)) := by
  obtain ⟨i0, hi0, hz0, hz1, hz2⟩ := info_parts infoStr
  have h := run_make (P := Tryd.prog) u 32 9 i0 (.string ⟨#[]⟩) Tryd.underlying32 hi0 hz0 .i64 .i64 0 (n : Int) (by omega) (by omega) (by rw [hz2]; omega) (by omega)
  rw [hz1] at h
  simpa [Value.cells] using h
theorem makeS_owns (u : World) (n : Nat) (hn : n ≤ 1048576) : OwnsS (u.alloc (.cells (madeCells #[.string ⟨#[]⟩] n) 9)) u.heap.size (.slice (some ⟨u.heap.size, 0, none⟩) 0 n) [] := by
  refine ⟨rfl, .inr ⟨u.heap.size, n, _, rfl, Nat.le_refl _, heap_alloc_new u _, Nat.zero_le _, by unfold maxLen; omega, ?_, by simp⟩⟩
  simp [madeCells]
/-- What all files are, as they are read. -/
def Dk.files (D : Dk) : List ByteArray := D.l.map rd
def Dk.after (D : Dk) (css : List (List Int)) : List ByteArray := (List.range D.l.length).map fun i => left (D.l.getD i Fl.zero) (css.getD i [])
theorem length_files (D : Dk) : D.files.length = D.l.length := by unfold Dk.files; rw [List.length_map]
theorem length_after (D : Dk) (css : List (List Int)) : (D.after css).length = D.l.length := by unfold Dk.after; rw [List.length_map, List.length_range]
theorem getD_files (D : Dk) (i : Nat) (h : i < D.l.length) : D.files.getD i ⟨#[]⟩ = rd (D.l.getD i Fl.zero) := by
  unfold Dk.files
  rw [List.getD_eq_getElem?_getD, List.getElem?_map, List.getElem?_eq_getElem h, List.getD_eq_getElem?_getD, List.getElem?_eq_getElem h]
  rfl
theorem getD_after (D : Dk) (css : List (List Int)) (i : Nat) (h : i < D.l.length) : (D.after css).getD i ⟨#[]⟩ = left (D.l.getD i Fl.zero) (css.getD i []) := by
  unfold Dk.after
  rw [List.getD_eq_getElem?_getD, List.getElem?_map, List.getElem?_range h]
  rfl
theorem take_files (D : Dk) (i : Nat) (h : i < D.l.length) : D.files.take (i + 1) = D.files.take i ++ [rd (D.l.getD i Fl.zero)] := by
  rw [take_succ_getD D.files i ⟨#[]⟩ (by rw [length_files]; exact h), getD_files D i h]
theorem take_after (D : Dk) (css : List (List Int)) (i : Nat) (h : i < D.l.length) : (D.after css).take (i + 1) = (D.after css).take i ++ [left (D.l.getD i Fl.zero) (css.getD i [])] := by
  rw [take_succ_getD (D.after css) i ⟨#[]⟩ (by rw [length_after]; exact h), getD_after D css i h]
set_option maxRecDepth 100000 in
set_option maxHeartbeats 800000 in
theorem filesW {b g cap : Nat} {D : Dk} {w : World} (h : IsDisk w b g cap D) (hok : DOk D) :
    Calls Tryd.prog 33 #[.pointer (some ⟨b, 0, none⟩)] w fun e w' => ∃ v, e = .returned v ∧ OwnsS w' w.heap.size v D.files ∧ Below w.heap.size w w' := by
  have h1 := h.cells.1
  have h2 := h.fs.len
  have h3 := h.fs.capm
  have hn := hok.n
  unfold maxLen at h3
  have hmk := fun u => makeS u D.l.length (by omega)
  have HID := Lib.hid h
  have HOK := Lib.hid hok
  have h1a : ∀ o, (w.alloc o).cell? ⟨b, 0, none⟩ = some (.slice (some ⟨g, 0, none⟩) D.l.length cap) := fun o => (World.cell?_alloc_lt _ _ _ (by simpa using h.lt)).trans h1
  have h1b := h1a (.cells (madeCells #[.string ⟨#[]⟩] D.l.length) 9)
  clear h hok h1a
  go_enter Tryd.func33, Tryd.ntmps33
  go_wp2_with fail
  obtain ⟨W, hW⟩ : ∃ W, W = w.alloc (.cells (madeCells #[.string ⟨#[]⟩] D.l.length) 9) := ⟨_, rfl⟩
  have ho := makeS_owns w D.l.length (by omega)
  have hb : Below w.heap.size w W := by rw [hW]; exact (Below.refl _ _).alloc (Nat.le_refl _) _
  rw [← hW] at ho ⊢
  have HO := Lib.hid ho
  have HB := Lib.hid hb
  clear hW ho hb h1b hmk h1
  go_loopw [3, 17] (fun v vi wr => ∃ i : Nat, i ≤ D.l.length ∧ vi = .int .i64 (i : Nat) ∧ OwnsS wr w.heap.size v (D.files.take i) ∧ Below w.heap.size w wr) (fun _ vi _ => (D.l.length - intOf vi).toNat)
  case atStart => exact ⟨0, by omega, rfl, HO.out, HB.out⟩
  case round =>
    obtain ⟨i, hi, rfl, ho, hb⟩ := hrel
    have HO2 := Lib.hid ho
    have HB2 := Lib.hid hb
    have hfs := (HID.out.below hb).fs
    by_cases hlt : i < D.l.length
    · have c1 := hfs.safe i hlt
      obtain ⟨v, c2, hws⟩ := hfs.ws i hlt
      have hsz := HOK.out.size i hlt
      have hmn := HOK.out.many i hlt
      have htk := take_files D i hlt
      obtain ⟨f, hf⟩ : ∃ f, f = D.l.getD i Fl.zero := ⟨_, rfl⟩
      rw [← hf] at c1 hws hsz hmn htk
      obtain ⟨p, c, rfl, _⟩ := hws.form
      have HR := Lib.hid (fun u hb => readW f (.slice p f.ws.length c) u (hws.below hb) (by omega) (by omega))
      obtain ⟨m, hm⟩ : ∃ m, m = f.ws.length := ⟨_, rfl⟩
      rw [← hm] at c2 HR
      have HTK := Lib.hid htk
      clear ho hb hfs hf hws htk hm hmn
      go_wp2_with fail
      refine (HR.out _ ((Below.refl _ _).alloc (Nat.le_refl _) _)).mono ?_
      rintro e w3 ⟨rfl, hb3⟩
      have hb3' : Below wr.heap.size wr w3 := ((Below.refl _ _).alloc (Nat.le_refl _) _).trans (hb3.mono (by simp))
      have HO3 := Lib.hid (HO2.out.kept hb3')
      have HB3 := Lib.hid (HB2.out.trans (hb3'.mono HB2.out.size))
      clear hb3 hb3' HO2 HB2 HR c1 c2
      go_wp2_with (at_builtin; refine wpList_append_s rfl _ _ rfl rfl (HO3.out.alloc _) ⟨w3.heap.size, 0, none⟩ 1 (rd f) rfl ?d1 ?d2 ?d3 ?_)
      case d1 => simp
      case d2 => have := List.length_take_le i D.files; omega
      case d3 => have := HB3.out.size; simp; omega
      intro v5 w5 ho5 hg5
      rw [← HTK.out] at ho5
      have HO5 := Lib.hid ho5
      have HB5 := Lib.hid ((HB3.out.alloc HB3.out.size _).grown hg5 (by have := HB3.out.size; simp; omega) (fun k hk => (HO3.out.block hk).1))
      clear ho5 hg5 HO3 HB3
      go_wp2_with fail
      exact ⟨⟨i + 1, by omega, rfl, HO5.out, HB5.out⟩, by simp [intOf]; omega⟩
    · have hfin : D.files.take i = D.files := List.take_of_length_le (by rw [length_files]; omega)
      rw [hfin] at HO2
      clear ho hb hfs hfin
      go_wp2_with fail
      go_ret
      exact ⟨_, rfl, HO2.out, HB2.out⟩
set_option maxRecDepth 100000 in
set_option maxHeartbeats 800000 in
theorem afterW {b g cap : Nat} {D : Dk} {w : World} (h : IsDisk w b g cap D) (hok : DOk D) (cv : Value) (css : List (List Int)) (hcs : Rss w cv css) (hcl : ∀ i, (css.getD i []).length ≤ 140737488355328) :
    Calls Tryd.prog 22 #[.pointer (some ⟨b, 0, none⟩), cv] w fun e w' => ∃ v, e = .returned v ∧ OwnsS w' w.heap.size v (D.after css) ∧ Below w.heap.size w w' := by
  have h1 := h.cells.1
  have h2 := h.fs.len
  have h3 := h.fs.capm
  have hn := hok.n
  unfold maxLen at h3
  have hmk := fun u => makeS u D.l.length (by omega)
  have HID := Lib.hid h
  have HOK := Lib.hid hok
  have HCL := Lib.hid hcl
  have h1a : ∀ o, (w.alloc o).cell? ⟨b, 0, none⟩ = some (.slice (some ⟨g, 0, none⟩) D.l.length cap) := fun o => (World.cell?_alloc_lt _ _ _ (by simpa using h.lt)).trans h1
  have h1b := h1a (.cells (madeCells #[.string ⟨#[]⟩] D.l.length) 9)
  obtain ⟨cp, ccap, rfl, hcell⟩ := hcs
  have HCC := Lib.hid hcell
  obtain ⟨CN, hCN⟩ : ∃ n, n = css.length := ⟨_, rfl⟩
  rw [← hCN]
  have HCN := Lib.hid hCN
  clear h hok h1a hcell hCN hcl
  go_enter Tryd.func22, Tryd.ntmps22
  go_wp2_with fail
  obtain ⟨W, hW⟩ : ∃ W, W = w.alloc (.cells (madeCells #[.string ⟨#[]⟩] D.l.length) 9) := ⟨_, rfl⟩
  have ho := makeS_owns w D.l.length (by omega)
  have hb : Below w.heap.size w W := by rw [hW]; exact (Below.refl _ _).alloc (Nat.le_refl _) _
  rw [← hW] at ho ⊢
  have HO := Lib.hid ho
  have HB := Lib.hid hb
  clear hW ho hb h1b hmk h1
  go_loopw [5, 20] (fun v vi wr => ∃ i : Nat, i ≤ D.l.length ∧ vi = .int .i64 (i : Nat) ∧ OwnsS wr w.heap.size v ((D.after css).take i) ∧ Below w.heap.size w wr) (fun _ vi _ => (D.l.length - intOf vi).toNat)
  case atStart => exact ⟨0, by omega, rfl, HO.out, HB.out⟩
  case round =>
    obtain ⟨i, hi, rfl, ho, hb⟩ := hrel
    have HO2 := Lib.hid ho
    have HB2 := Lib.hid hb
    have hfs := (HID.out.below hb).fs
    by_cases hlt : i < D.l.length
    · have c1 := hfs.safe i hlt
      obtain ⟨v, c2, hws⟩ := hfs.ws i hlt
      have hsz := HOK.out.size i hlt
      have hmn := HOK.out.many i hlt
      have htk := take_after D css i hlt
      have hcln := HCL.out i
      obtain ⟨f, hf⟩ : ∃ f, f = D.l.getD i Fl.zero := ⟨_, rfl⟩
      rw [← hf] at c1 hws hsz hmn htk
      obtain ⟨p, c, rfl, _⟩ := hws.form
      obtain ⟨cs, hcs⟩ : ∃ cs, cs = css.getD i [] := ⟨_, rfl⟩
      rw [← hcs] at htk hcln
      have HR : Hid (∀ u v, Below wr.heap.size wr u → Ints u v cs → Calls Tryd.prog 51 #[.agg #[.string f.safe, .slice p f.ws.length c], v] u fun e w' => e = .returned (.string (left f cs)) ∧ Below u.heap.size u w') := fun u v hb hv => leftW f (.slice p f.ws.length c) v cs u (hws.below hb) hv (by omega) (by omega) hcln
      obtain ⟨m, hm⟩ : ∃ m, m = f.ws.length := ⟨_, rfl⟩
      rw [← hm] at c2 HR
      have HTK := Lib.hid htk
      have HCS := Lib.hid hcs
      clear ho hb hfs hf hws htk hm hmn hcs hcln
      by_cases hci : i < CN
      · obtain ⟨cb, co, u, hcp, hcx, hcu⟩ := HCC.out i (by rw [← HCN.out]; exact hci)
        subst hcp
        rw [← HCS.out] at hcu
        have hb0 : Below w.heap.size w (wr.alloc (.cells #[.string f.safe, .slice p m c] 81)) := HB2.out.alloc HB2.out.size _
        have hcw := (hb0.cell (block_lt_of_cell hcx)).trans hcx
        have HCU := Lib.hid (hcu.below hb0)
        obtain ⟨up, uc, rfl, _⟩ := hcu.form
        clear hcx hcu hb0
        go_wp2_with fail
        refine (HR.out _ _ ((Below.refl _ _).alloc (Nat.le_refl _) _) HCU.out).mono ?_
        rintro e w3 ⟨rfl, hb3⟩
        have hb3' : Below wr.heap.size wr w3 := ((Below.refl _ _).alloc (Nat.le_refl _) _).trans (hb3.mono (by simp))
        have HO3 := Lib.hid (HO2.out.kept hb3')
        have HB3 := Lib.hid (HB2.out.trans (hb3'.mono HB2.out.size))
        clear hb3 hb3' HO2 HB2 HR c1 c2 hcw HCU
        go_wp2_with (at_builtin; refine wpList_append_s rfl _ _ rfl rfl (HO3.out.alloc _) ⟨w3.heap.size, 0, none⟩ 1 (left f cs) rfl ?d1 ?d2 ?d3 ?_)
        case d1 => simp
        case d2 => have := List.length_take_le i (D.after css); omega
        case d3 => have := HB3.out.size; simp; omega
        intro v5 w5 ho5 hg5
        rw [← HTK.out] at ho5
        have HO5 := Lib.hid ho5
        have HB5 := Lib.hid ((HB3.out.alloc HB3.out.size _).grown hg5 (by have := HB3.out.size; simp; omega) (fun k hk => (HO3.out.block hk).1))
        clear ho5 hg5 HO3 HB3
        go_wp2_with fail
        exact ⟨⟨i + 1, by omega, rfl, HO5.out, HB5.out⟩, by simp [intOf]; omega⟩
      · have hcs0 : cs = [] := by rw [HCS.out, List.getD_eq_getElem?_getD, List.getElem?_eq_none (by rw [← HCN.out]; omega)]; rfl
        have HR2 : Hid (∀ u, Below wr.heap.size wr u → Calls Tryd.prog 51 #[.agg #[.string f.safe, .slice p m c], .slice none 0 0] u fun e w' => e = .returned (.string (left f cs)) ∧ Below u.heap.size u w') := fun u hb => HR.out u _ hb (by rw [hcs0]; exact Ints.nil u)
        clear hcs0
        go_wp2_with fail
        refine (HR2.out _ ((Below.refl _ _).alloc (Nat.le_refl _) _)).mono ?_
        rintro e w3 ⟨rfl, hb3⟩
        have hb3' : Below wr.heap.size wr w3 := ((Below.refl _ _).alloc (Nat.le_refl _) _).trans (hb3.mono (by simp))
        have HO3 := Lib.hid (HO2.out.kept hb3')
        have HB3 := Lib.hid (HB2.out.trans (hb3'.mono HB2.out.size))
        clear hb3 hb3' HO2 HB2 HR HR2 c1 c2
        go_wp2_with (at_builtin; refine wpList_append_s rfl _ _ rfl rfl (HO3.out.alloc _) ⟨w3.heap.size, 0, none⟩ 1 (left f cs) rfl ?d1 ?d2 ?d3 ?_)
        case d1 => simp
        case d2 => have := List.length_take_le i (D.after css); omega
        case d3 => have := HB3.out.size; simp; omega
        intro v5 w5 ho5 hg5
        rw [← HTK.out] at ho5
        have HO5 := Lib.hid ho5
        have HB5 := Lib.hid ((HB3.out.alloc HB3.out.size _).grown hg5 (by have := HB3.out.size; simp; omega) (fun k hk => (HO3.out.block hk).1))
        clear ho5 hg5 HO3 HB3
        go_wp2_with fail
        exact ⟨⟨i + 1, by omega, rfl, HO5.out, HB5.out⟩, by simp [intOf]; omega⟩
    · have hfin : i = D.l.length := by omega
      rw [List.take_of_length_le (by rw [length_after]; omega)] at ho
      have HO3 := Lib.hid ho
      clear ho hb hfs hfin
      go_wp2_with fail
      go_ret
      exact ⟨_, rfl, HO3.out, HB2.out⟩
end Go.Proofs.YtamaefnlicloaaaDoor
