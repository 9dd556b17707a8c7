/- Walks of the program's disk: the power goes. -/
import Derived.Test.YtamaefnlicloaaaDoorDWalk2
namespace Go.Proofs.YtamaefnlicloaaaDoor
open Go.RowKit
/-- The files while the power goes: the first i are what is left. -/
def Dk.dieTo (D : Dk) (css : List (List Int)) : Nat → List Fl
  | 0 => D.l
  | i + 1 => (D.dieTo css i).set i ⟨(D.after css).getD i ⟨#[]⟩, []⟩
theorem length_dieTo (D : Dk) (css : List (List Int)) (i : Nat) : (D.dieTo css i).length = D.l.length := by
  induction i with
  | zero => rfl
  | succ i ih => rw [Dk.dieTo, List.length_set, ih]
theorem dieTo_getD (D : Dk) (css : List (List Int)) (i : Nat) (j : Nat) (hj : j < D.l.length) : (D.dieTo css i).getD j Fl.zero = if j < i then ⟨(D.after css).getD j ⟨#[]⟩, []⟩ else D.l.getD j Fl.zero := by
  induction i with
  | zero => rw [if_neg (by omega)]; rfl
  | succ i ih =>
    rw [Dk.dieTo]
    by_cases e : i = j
    · subst e
      rw [getD_set_self _ _ _ _ (by rw [length_dieTo]; exact hj), if_pos (by omega)]
    · rw [getD_set_ne _ _ _ _ _ e, ih]
      by_cases h : j < i
      · rw [if_pos h, if_pos (by omega)]
      · rw [if_neg h, if_neg (by omega)]
def Dk.died (D : Dk) (css : List (List Int)) : Dk := ⟨(D.after css).map (fun s => ⟨s, []⟩), 0, D.ch, true⟩
theorem ext_getD {α : Type} (a b : List α) (d : α) (hl : a.length = b.length) (h : ∀ j, j < a.length → a.getD j d = b.getD j d) : a = b := by
  refine List.ext_getElem hl fun j h1 h2 => ?_
  have := h j h1
  rwa [List.getD_eq_getElem?_getD, List.getD_eq_getElem?_getD, List.getElem?_eq_getElem h1, List.getElem?_eq_getElem h2] at this
theorem dieTo_end (D : Dk) (css : List (List Int)) : D.dieTo css D.l.length = (D.after css).map (fun s => ⟨s, []⟩) := by
  refine ext_getD _ _ Fl.zero (by rw [length_dieTo, List.length_map, length_after]) fun j hj => ?_
  rw [length_dieTo] at hj
  rw [dieTo_getD D css _ j hj, if_pos hj, List.getD_eq_getElem?_getD, List.getD_eq_getElem?_getD, List.getElem?_map, List.getElem?_eq_getElem (by rw [length_after]; exact hj)]
  rfl
set_option maxRecDepth 100000 in
set_option maxHeartbeats 800000 in
theorem diesW {b g cap : Nat} {D : Dk} {w : World} (h : IsDisk w b g cap D) (hok : DOk D) (cv : Value) (css : List (List Int)) (hcs : Rss w cv css) (hcl : ∀ i, (css.getD i []).length ≤ 140737488355328) :
    Calls Tryd.prog 55 #[.pointer (some ⟨b, 0, none⟩), cv] w fun e w' => e = .returned (.int .i64 2) ∧ IsDisk w' b g cap (D.died css) ∧ Chg (fun k => k = b ∨ k = g) w w' := by
  have HA := Lib.hid (afterW h hok cv css hcs hcl)
  have hn := hok.n
  have h2 := h.fs.len
  have h3 := h.fs.capm
  unfold maxLen at h3
  have hbl := h.lt
  have hgl := h.fs.lt
  have hne := h.ne
  have HID := Lib.hid h
  obtain ⟨cp, ccap, rfl, _⟩ := hcs
  clear h hok hcl
  go_enter Tryd.func55, Tryd.ntmps55
  go_wp2_with fail
  refine HA.out.mono ?_
  rintro e w1 ⟨v, rfl, ho, hb⟩
  obtain ⟨p, ac, hv, hacl, hcell⟩ := Row1.form ho.ws
  rw [List.length_map, length_after] at hv hacl hcell
  subst hv
  have HID1 := Lib.hid (HID.out.below hb)
  have hge : ∀ gA, p = some ⟨gA, 0, none⟩ → w.heap.size ≤ gA := fun gA e => by subst e; exact (ho.block (k := gA) rfl).1
  have HCELL := Lib.hid hcell
  have HGE := Lib.hid hge
  have HC1 := Lib.hid (Chg.of_below (fun k => k = b ∨ k = g) hb)
  have hs1 := hb.size
  clear ho hb hcell hge HA HID
  go_wp2_with fail
  go_loopw [11] (fun vi wr => ∃ i : Nat, i ≤ D.l.length ∧ vi = .int .i64 (i : Nat) ∧ IsDisk wr b g cap ⟨D.dieTo css i, D.armed, D.ch, D.dead⟩ ∧ Chg (fun k => k = g) w1 wr) (fun vi _ => (D.l.length - intOf vi).toNat)
  case atStart => exact ⟨0, by omega, rfl, HID1.out, Chg.refl _ _⟩
  case round =>
    obtain ⟨i, hi, rfl, hid, hc⟩ := hrel
    have HIDR := Lib.hid hid
    have HC := Lib.hid hc
    by_cases hlt : i < D.l.length
    · obtain ⟨gA, hp, hx⟩ := HCELL.out i hlt
      have hgA := HGE.out gA hp
      subst hp
      obtain ⟨x, hxx⟩ : ∃ x, x = (D.after css).getD i ⟨#[]⟩ := ⟨_, rfl⟩
      have hx2 : wr.cell? ⟨gA, i, none⟩ = some (.string x) := by
        refine hc.cell (by show ¬ gA = g; omega) (hx.trans ?_)
        rw [List.getElem?_map, List.getElem?_eq_getElem (by rw [length_after]; exact hlt), hxx, List.getD_eq_getElem?_getD, List.getElem?_eq_getElem (by rw [length_after]; exact hlt)]
        rfl
      have c0 := hid.cells.1
      have hl := length_dieTo D css i
      rw [hl] at c0
      have c1 := hid.fs.safe i (by rw [hl]; exact hlt)
      obtain ⟨u, c2, _⟩ := hid.fs.ws i (by rw [hl]; exact hlt)
      have f1 := hid.fs.free (i * 2)
      have f2 := hid.fs.free (i * 2 + 1)
      have hnew := hid.files (l' := (D.dieTo css i).set i ⟨x, []⟩) ((Chg.setCell (fun k => k = g) wr (j := i * 2) rfl (.string x)).trans (Chg.setCell (fun k => k = g) _ (j := i * 2 + 1) rfl (.slice none 0 0))) (hid.fs.setBoth (f := i) (by rw [hl]; exact hlt) x) (by rw [List.length_set])
      rw [hxx] at hnew
      have HNEW : Hid (IsDisk ((wr.setCell ⟨g, i * 2, none⟩ (.string x)).setCell ⟨g, i * 2 + 1, none⟩ (.slice none 0 0)) b g cap ⟨D.dieTo css (i + 1), D.armed, D.ch, D.dead⟩) := by rw [hxx]; exact hnew
      have HC2 := Lib.hid (hc.trans ((Chg.setCell (fun k => k = g) wr (j := i * 2) rfl (.string x)).trans (Chg.setCell (fun k => k = g) _ (j := i * 2 + 1) rfl (.slice none 0 0))))
      clear hx hxx hid hc hl hnew
      go_wp2_with fail
      exact ⟨⟨i + 1, by omega, rfl, HNEW.out, HC2.out⟩, by simp [intOf]; omega⟩
    · have hie : i = D.l.length := by omega
      rw [hie, dieTo_end] at hid
      have c1 := hid.cells.2.1
      have c2 := hid.cells.2.2.2
      have f1 := hid.free 1
      have f2 := hid.free 3
      have hfin := (hid.setArmed 0).setDead true
      have HF := Lib.hid hfin
      have HCF := Lib.hid (HC1.out.trans ((hc.mono (fun k _ h => Or.inr h)).trans ((Chg.setCell (fun k => k = b ∨ k = g) wr (j := 1) (.inl rfl) (.int .i64 ((0 : Nat) : Int))).trans (Chg.setCell (fun k => k = b ∨ k = g) _ (j := 3) (.inl rfl) (.bool true)))))
      clear hid hc hie hfin
      go_wp2_with fail
      go_ret
      exact ⟨rfl, HF.out, HCF.out⟩
end Go.Proofs.YtamaefnlicloaaaDoor
