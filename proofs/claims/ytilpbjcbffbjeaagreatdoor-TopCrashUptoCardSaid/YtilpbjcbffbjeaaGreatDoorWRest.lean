/- Opening a log's files that are at rest: what was left is found, whether the power goes in it or not. No program in sight. -/
import Derived.Test.YtilpbjcbffbjeaaGreatDoorWCrash
namespace Go.Proofs.YtilpbjcbffbjeaaGreatDoor
set_option linter.unusedVariables false
theorem Fl.safe_self {x : Fl} (h : x.ws = []) : (⟨rd x, []⟩ : Fl) = x := by
  obtain ⟨s, ws⟩ := x
  cases h
  rw [rd_safe]
theorem Lives.sync_self {D D' : Dk} {f : Nat} (h : Lives D D' (D.l.set f ⟨rd (D.l.getD f Fl.zero), []⟩)) (hw : (D.l.getD f Fl.zero).ws = []) : D'.l = D.l := by
  rw [h.l, Fl.safe_self hw, set_self]
section
variable {l : List Fl} {M f c o gen : Nat} {snap : ByteArray} {ps : List ByteArray}
theorem Rest1.cl (h : Rest1 l M f snap ps c o gen) : c < l.length ∧ o < l.length ∧ c ≠ o ∧ 2 * (f : Int) + 1 - (c : Int) = (o : Nat) := by
  have := h.f1
  rcases h.co with e | e <;> omega
theorem Rest1.whole (h : Rest1 l M f snap ps c o gen) (hM : M ≤ 1099511627776) : whole (bs (rd (l.getD c Fl.zero))) = some (gen, bs snap) := by
  obtain ⟨B, hB, _⟩ := h.cb
  rw [rd_ws h.cw, hB]
  exact whole_rec _ _ _ h.gen1 (Nat.le_trans h.gen2 hM) (by rw [length_bs]; exact h.sn)
theorem Rest1.pk (h : Rest1 l M f snap ps c o gen) (hM : M ≤ 1099511627776) : pkAt f (rd (l.getD f Fl.zero)) (rd (l.getD (f + 1) Fl.zero)) 2 = ⟨c, gen, bs snap, rd (l.getD c Fl.zero), 19 + (bs snap).length⟩ := by
  have hw := h.whole hM
  have hg := h.gen1
  have hob := h.ob
  rw [← rd_ws h.ow] at hob
  show ((Pk.zero f).next f (rd (l.getD f Fl.zero))).next (f + 1) (rd (l.getD (f + 1) Fl.zero)) = _
  rcases h.co with ⟨e1, e2⟩ | ⟨e1, e2⟩
  · rw [e1] at hw ⊢
    rw [e2] at hob
    rw [Pk.next_more _ _ _ hw (by show 0 < gen; omega)]
    cases hb : Go.Proofs.YtilpbjcbffbjeaaGreatDoor.whole (bs (rd (l.getD (f + 1) Fl.zero))) with
    | none => rw [Pk.next_none _ _ _ hb]
    | some x =>
      obtain ⟨n, q⟩ := x
      rw [Pk.next_less _ _ _ hb (by have := hob n q hb; show ¬ gen < n; omega)]
  · rw [e1] at hw ⊢
    rw [e2] at hob
    have hp : ((Pk.zero f).next f (rd (l.getD f Fl.zero))).gen < gen := by
      cases ha : Go.Proofs.YtilpbjcbffbjeaaGreatDoor.whole (bs (rd (l.getD f Fl.zero))) with
      | none => rw [Pk.next_none _ _ _ ha]; show 0 < gen; omega
      | some x =>
        obtain ⟨n, q⟩ := x
        have := hob n q ha
        by_cases h0 : 0 < n
        · rw [Pk.next_more _ _ _ ha (by show 0 < n; exact h0)]; exact this
        · rw [Pk.next_less _ _ _ ha (by show ¬ 0 < n; exact h0)]; show 0 < gen; omega
    rw [Pk.next_more _ _ _ hw hp]
theorem Rest1.few (h : Rest1 l M f snap ps c o gen) (hz : ∀ f, f < l.length → (rd (l.getD f Fl.zero)).size ≤ 262144) : 19 * ps.length ≤ 262144 ∧ 19 + snap.size + lens (ps.map bs) ≤ (rd (l.getD c Fl.zero)).size := by
  obtain ⟨B, hB, _⟩ := h.cb
  rw [← rd_ws h.cw] at hB
  have h1 := congrArg List.length hB
  rw [length_bs, List.length_append, List.length_append, length_recL, length_recsL, length_bs] at h1
  have h2 := hz c h.cl.1
  have h3 := lens_ge (ps.map bs)
  rw [List.length_map] at h3
  omega
theorem Rest1.scan (h : Rest1 l M f snap ps c o gen) (hz : ∀ f, f < l.length → (rd (l.getD f Fl.zero)).size ≤ 262144) : Go.Proofs.YtilpbjcbffbjeaaGreatDoor.scan ((bs (rd (l.getD c Fl.zero))).drop (19 + (bs snap).length)) = ps.map bs := by
  obtain ⟨B, hB, hw⟩ := h.cb
  have hf := h.few hz
  rw [← rd_ws h.cw] at hB
  rw [hB, List.drop_left' (length_recL _ _)]
  unfold Go.Proofs.YtilpbjcbffbjeaaGreatDoor.scan
  refine scanF_recs B (ps.map bs) 0 _ (by rw [List.length_map]; omega) (fun p hp => ?_) ?_ (fun q => by rw [hw]; simp)
  · obtain ⟨q, hq, rfl⟩ := List.mem_map.1 hp
    rw [length_bs]; exact h.pl q hq
  · rw [List.length_append, length_recsL]
    have := lens_ge (ps.map bs)
    omega
end
/-- What an opening of files at rest comes to. -/
inductive Opened (D : Dk) (M f : Nat) (snap : ByteArray) (ps : List ByteArray) (D' : Dk) : OR → Prop
  | gone : D'.dead = true → D.armed ≠ 0 → D'.ch = D.ch → DOk D' → Rest D'.l M f snap ps → D'.l.length = D.l.length → (∀ j, j ≠ f → j ≠ f + 1 → j < D.l.length → ∃ cs, D'.l.getD j Fl.zero = ⟨left (D.l.getD j Fl.zero) cs, []⟩) → Opened D M f snap ps D' (.err 2)
  | open (L : Lg) : D'.dead = false → (D.armed = 0 → D'.armed = 0) → D'.ch = D.ch → DOk D' → LC D'.l M f L snap ps ps.length → D'.l.length = D.l.length → (∀ j, j ≠ f → j ≠ f + 1 → D'.l.getD j Fl.zero = D.l.getD j Fl.zero) → Opened D M f snap ps D' (.ok L (bs snap) (ps.map bs))
/-- Half opened: the disk lives, the files say the same. -/
structure Half (D D1 : Dk) (M f : Nat) (snap : ByteArray) (ps : List ByteArray) (c o gen : Nat) : Prop where
  al : D1.dead = false
  ar : D.armed = 0 → D1.armed = 0
  ch : D1.ch = D.ch
  ok : DOk D1
  r : Rest1 D1.l M f snap ps c o gen
  len : D1.l.length = D.l.length
  other : ∀ j, j ≠ f → j ≠ f + 1 → D1.l.getD j Fl.zero = D.l.getD j Fl.zero
section
variable {D D1 D2 D' : Dk} {M f c o gen : Nat} {snap : ByteArray} {ps : List ByteArray}
theorem Half.gone (h : Half D D1 M f snap ps c o gen) (hd : Dies D1 D' D1.l) : Opened D M f snap ps D' (.err 2) := by
  refine .gone hd.dd (fun e => hd.ar (h.ar e)) (hd.ch.trans h.ch) hd.ok (Rest.died ⟨c, o, gen, h.r⟩ hd.l) (hd.l.1.trans h.len) fun j h1 h2 h3 => ?_
  obtain ⟨cs, e⟩ := hd.l.2 j (by rw [h.len]; exact h3)
  exact ⟨cs, by rw [e, h.other j h1 h2]⟩
theorem Half.same (h : Half D D1 M f snap ps c o gen) {l2 : List Fl} (hl : Lives D1 D2 l2) (he : l2 = D1.l) : Half D D2 M f snap ps c o gen := by
  have e := hl.l
  rw [he] at e
  exact ⟨hl.al, fun a => hl.ar (h.ar a), hl.ch.trans h.ch, hl.ok, by rw [e]; exact h.r, by rw [e]; exact h.len, by rw [e]; exact h.other⟩
theorem Half.sync (h : Half D D1 M f snap ps c o gen) (i : Nat) (hi : i = f ∨ i = f + 1) : (∃ D2, D1.syncX (i : Nat) = (D2, 0) ∧ Half D D2 M f snap ps c o gen) ∨ (∃ D2, D1.syncX (i : Nat) = (D2, 2) ∧ Opened D M f snap ps D2 (.err 2)) := by
  have hf := h.r.f1
  have hw : (D1.l.getD i Fl.zero).ws = [] := by
    rcases h.r.co with ⟨e1, e2⟩ | ⟨e1, e2⟩ <;> rcases hi with e | e
    · rw [e, ← e1]; exact h.r.cw
    · rw [e, ← e2]; exact h.r.ow
    · rw [e, ← e2]; exact h.r.ow
    · rw [e, ← e1]; exact h.r.cw
  rcases syncX_c h.ok h.al i (by omega) with ⟨D2, e, hl⟩ | ⟨D2, e, hl⟩
  · exact .inl ⟨D2, e, h.same hl (by rw [Fl.safe_self hw, set_self])⟩
  · exact .inr ⟨D2, e, h.gone hl⟩
/-- The file that counts is cut behind its last record. -/
theorem Half.cut1 (h : Half D D1 M f snap ps c o gen) (n : Nat) (hn : n = 19 + (bs snap).length + lens (ps.map bs)) : (∃ D2, D1.cutX (c : Nat) (n : Nat) = (D2, 0) ∧ Half D D2 M f snap ps c o gen ∧ bs (D2.l.getD c Fl.zero).safe = recL gen (bs snap) ++ recsL 0 (ps.map bs)) ∨ (∃ D2, D1.cutX (c : Nat) (n : Nat) = (D2, 2) ∧ Opened D M f snap ps D2 (.err 2)) := by
  have hcl := h.r.cl
  have hfew := h.r.few h.ok.size
  obtain ⟨B, hB, hw⟩ := h.r.cb
  rw [rd_ws h.r.cw] at hfew
  have hx : bs ((D1.l.getD c Fl.zero).safe.extract 0 n) = recL gen (bs snap) ++ recsL 0 (ps.map bs) := by
    rw [bs_extract, hB, List.drop_zero, Nat.sub_zero, ← List.append_assoc, List.take_left']
    rw [List.length_append, length_recL, length_recsL, hn]
  rcases cutX_c h.ok h.al c n hcl.1 h.r.cw (by rw [hn, length_bs]; exact hfew.2) with ⟨D2, e, hl⟩ | ⟨D2, e, hl⟩
  · have ec : D2.l.getD c Fl.zero = ⟨(D1.l.getD c Fl.zero).safe.extract 0 n, []⟩ := by rw [hl.l, getD_set_self _ _ _ _ hcl.1]
    have eo : D2.l.getD o Fl.zero = D1.l.getD o Fl.zero := by rw [hl.l, getD_set_ne _ _ _ _ _ hcl.2.2.1]
    have el : D2.l.length = D1.l.length := by rw [hl.l, List.length_set]
    refine .inl ⟨D2, e, ⟨hl.al, fun a => hl.ar (h.ar a), hl.ch.trans h.ch, hl.ok, ⟨by rw [el]; exact h.r.f1, h.r.co, by rw [ec], by rw [eo]; exact h.r.ow, ⟨[], by rw [ec]; show bs (_ : ByteArray) = _; rw [hx, List.append_nil], whole_nil⟩, by rw [eo]; exact h.r.ob, h.r.gen1, h.r.gen2, h.r.sn, h.r.pl⟩, el.trans h.len, fun j h1 h2 => ?_⟩, by rw [ec]; exact hx⟩
    rw [hl.l, getD_set_ne _ _ _ _ _ (by rcases h.r.co with q | q <;> omega)]
    exact h.other j h1 h2
  · exact .inr ⟨D2, e, h.gone hl⟩
/-- The other file is cut. -/
theorem Half.cut2 (h : Half D D1 M f snap ps c o gen) (hB : bs (D1.l.getD c Fl.zero).safe = recL gen (bs snap) ++ recsL 0 (ps.map bs)) : (∃ D2, D1.cutX (o : Nat) 0 = (D2, 0) ∧ Half D D2 M f snap ps c o gen ∧ bs (D2.l.getD c Fl.zero).safe = recL gen (bs snap) ++ recsL 0 (ps.map bs) ∧ D2.l.getD o Fl.zero = Fl.zero) ∨ (∃ D2, D1.cutX (o : Nat) 0 = (D2, 2) ∧ Opened D M f snap ps D2 (.err 2)) := by
  have hcl := h.r.cl
  rcases cutX_c h.ok h.al o 0 hcl.2.1 h.r.ow (Nat.zero_le _) with ⟨D2, e, hl⟩ | ⟨D2, e, hl⟩
  · have e0 : (D1.l.getD o Fl.zero).safe.extract 0 0 = ⟨#[]⟩ := bs_inj (by rw [bs_extract]; simp; rfl)
    have eo : D2.l.getD o Fl.zero = Fl.zero := by rw [hl.l, getD_set_self _ _ _ _ hcl.2.1, e0]; rfl
    have ec : D2.l.getD c Fl.zero = D1.l.getD c Fl.zero := by rw [hl.l, getD_set_ne _ _ _ _ _ (Ne.symm hcl.2.2.1)]
    have el : D2.l.length = D1.l.length := by rw [hl.l, List.length_set]
    refine .inl ⟨D2, e, ⟨hl.al, fun a => hl.ar (h.ar a), hl.ch.trans h.ch, hl.ok, ⟨by rw [el]; exact h.r.f1, h.r.co, by rw [ec]; exact h.r.cw, by rw [eo]; rfl, by rw [ec]; exact h.r.cb, ?_, h.r.gen1, h.r.gen2, h.r.sn, h.r.pl⟩, el.trans h.len, fun j h1 h2 => ?_⟩, by rw [ec]; exact hB, eo⟩
    · rw [eo]
      intro n q hw
      have hw0 : whole (bs (Fl.zero).safe) = none := by kernel_rfl
      rw [hw0] at hw
      cases hw
    · rw [hl.l, getD_set_ne _ _ _ _ _ (by rcases h.r.co with q | q <;> omega)]
      exact h.other j h1 h2
  · exact .inr ⟨D2, e, h.gone hl⟩
theorem Half.done (h : Half D D1 M f snap ps c o gen) (hB : bs (D1.l.getD c Fl.zero).safe = recL gen (bs snap) ++ recsL 0 (ps.map bs)) (hz : D1.l.getD o Fl.zero = Fl.zero) :
    Opened D M f snap ps D1 (.ok ⟨f, c, gen, (ps.map bs).length, false⟩ (bs snap) (ps.map bs)) := by
  have hcl := h.r.cl
  refine .open _ h.al h.ar h.ch h.ok ⟨h.r.f1, rfl, by show c = f ∨ c = f + 1; rcases h.r.co with q | q <;> omega, rfl, List.length_map .., h.r.gen1, h.r.gen2, ⟨Nat.le_refl _, by rw [List.take_length]; exact hB, ?_⟩, ?_, h.r.sn, h.r.pl⟩ h.len h.other
  · show (D1.l.getD c Fl.zero).ws.map bs = _
    rw [h.r.cw, List.drop_length]; rfl
  · have e : (⟨f, c, gen, (ps.map bs).length, false⟩ : Lg).other = o := by unfold Lg.other; dsimp only; omega
    rw [e]; exact hz
/-- Whatever becomes of the power: opened as it was left, or left as it was. -/
theorem Rest.open {r : OR} (h : Rest D.l M f snap ps) (hok : DOk D) (hd : D.dead = false) (hM : M ≤ 1099511627776) (hc : OC D (f : Nat) D' r) : Opened D M f snap ps D' r := by
  obtain ⟨c, o, gen, h1⟩ := h
  have H0 : Half D D M f snap ps c o gen := ⟨hd, id, rfl, hok, h1, rfl, fun _ _ _ => rfl⟩
  have hf := h1.f1
  have hcl := h1.cl
  -- behind both syncs
  have HS : ∀ n D1 D2, (f : Int) = (n : Nat) → Syn D n D1 D2 → n = f ∧ Half D D2 M f snap ps c o gen := by
    intro n D1 D2 hn hs
    have hn' : n = f := by omega
    subst hn'
    refine ⟨rfl, ?_⟩
    have e1 := hs.e1
    have e2 := hs.e2
    rcases H0.sync n (.inl rfl) with ⟨Da, ea, ha⟩ | ⟨Da, ea, _⟩
    · rw [ea] at e1
      injection e1 with e1 _
      subst e1
      rw [show (n : Int) + 1 = ((n + 1 : Nat) : Int) by omega] at e2
      rcases ha.sync (n + 1) (.inr rfl) with ⟨Db, eb, hb⟩ | ⟨Db, eb, _⟩
      · rw [eb] at e2
        injection e2 with e2 _
        subst e2
        exact hb
      · rw [eb] at e2; injection e2 with _ e2; omega
    · rw [ea] at e1; injection e1 with _ e1; omega
  -- what is picked
  have HP : ∀ D2, Half D D2 M f snap ps c o gen → pkOf D2 f = ⟨c, gen, bs snap, rd (D2.l.getD c Fl.zero), 19 + (bs snap).length⟩ ∧ rsOf (pkOf D2 f) = ps.map bs := by
    intro D2 h2
    have e : pkOf D2 f = ⟨c, gen, bs snap, rd (D2.l.getD c Fl.zero), 19 + (bs snap).length⟩ := h2.r.pk hM
    refine ⟨e, ?_⟩
    rw [e]
    exact h2.r.scan h2.ok.size
  -- behind the first cut
  have HC : ∀ D2 D3, Half D D2 M f snap ps c o gen → Cut1 D2 f D3 → Half D D3 M f snap ps c o gen ∧ bs (D3.l.getD c Fl.zero).safe = recL gen (bs snap) ++ recsL 0 (ps.map bs) := by
    intro D2 D3 h2 hcut
    obtain ⟨e1, e2⟩ := HP D2 h2
    have hy := hcut.y
    have hn := hcut.n
    rw [e2, e1] at hy hn
    dsimp only at hy hn
    by_cases hlt : 19 + (bs snap).length + lens (ps.map bs) < (rd (D2.l.getD c Fl.zero)).size
    · have hy := hy hlt
      rcases h2.cut1 _ rfl with ⟨Da, ea, ha, hb⟩ | ⟨Da, ea, _⟩
      · rw [ea] at hy
        injection hy with hy _
        subst hy
        exact ⟨ha, hb⟩
      · rw [ea] at hy; injection hy with _ hy; omega
    · rw [hn hlt]
      refine ⟨h2, ?_⟩
      obtain ⟨B, hB, _⟩ := h2.r.cb
      rw [rd_ws h2.r.cw] at hlt
      have hl := congrArg List.length hB
      rw [length_bs, List.length_append, List.length_append, length_recL, length_recsL] at hl
      have : B = [] := List.length_eq_zero_iff.1 (by omega)
      rw [hB, this, List.append_nil]
  cases hc with
  | dead h => rw [hd] at h; cases h
  | no _ h => exact absurd (⟨by omega, by omega⟩ : 0 ≤ (f : Int) ∧ (f : Int) < (D.l.length : Int) - 1) h
  | sync1 n D1 hn _ _ e1 _ _ =>
    have hn' : n = f := by omega
    subst hn'
    rcases H0.sync n (.inl rfl) with ⟨Da, ea, _⟩ | ⟨Da, ea, ha⟩
    · rw [ea] at e1; injection e1 with _ e1; omega
    · rw [ea] at e1; injection e1 with e1 _; subst e1; exact ha
  | sync2 n D1 D2 hn _ _ e1 _ e2 =>
    have hn' : n = f := by omega
    subst hn'
    rcases H0.sync n (.inl rfl) with ⟨Da, ea, ha⟩ | ⟨Da, ea, _⟩
    · rw [ea] at e1
      injection e1 with e1 _
      subst e1
      rw [show (n : Int) + 1 = ((n + 1 : Nat) : Int) by omega] at e2
      rcases ha.sync (n + 1) (.inr rfl) with ⟨Db, eb, _⟩ | ⟨Db, eb, hb⟩
      · rw [eb] at e2; injection e2 with _ e2; omega
      · rw [eb] at e2; injection e2 with e2 _; subst e2; exact hb
    · rw [ea] at e1; injection e1 with _ e1; omega
  | form n D1 D2 hn hs h0 =>
    obtain ⟨rfl, h2⟩ := HS n _ _ hn hs
    rw [(HP _ h2).1] at h0
    have := h1.gen1
    dsimp only at h0
    omega
  | cut1 n D1 D2 D3 hn hs _ hlt e3 =>
    obtain ⟨rfl, h2⟩ := HS n _ _ hn hs
    obtain ⟨q1, q2⟩ := HP _ h2
    rw [q2, q1] at e3
    dsimp only at e3
    rcases h2.cut1 _ rfl with ⟨Da, ea, _⟩ | ⟨Da, ea, ha⟩
    · rw [ea] at e3; injection e3 with _ e3; omega
    · rw [ea] at e3; injection e3 with e3 _; subst e3; exact ha
  | cut2 n D1 D2 D3 D4 o' hn hs hcut ho _ e4 =>
    obtain ⟨rfl, h2⟩ := HS n _ _ hn hs
    obtain ⟨h3, hB⟩ := HC _ _ h2 hcut
    rw [(HP _ h2).1] at ho
    dsimp only at ho
    have ho' : o' = o := by omega
    subst ho'
    rcases h3.cut2 hB with ⟨Da, ea, _⟩ | ⟨Da, ea, ha⟩
    · rw [ea] at e4; injection e4 with _ e4; omega
    · rw [ea] at e4; injection e4 with e4 _; subst e4; exact ha
  | ok n D1 D2 D3 D4 o' hn hs hcut ho hy hn4 =>
    obtain ⟨rfl, h2⟩ := HS n _ _ hn hs
    obtain ⟨h3, hB⟩ := HC _ _ h2 hcut
    obtain ⟨q1, q2⟩ := HP _ h2
    rw [q1] at ho
    dsimp only at ho
    have ho' : o' = o := by omega
    subst ho'
    rw [q2, q1]
    dsimp only
    by_cases hz : 0 < (rd (D3.l.getD o' Fl.zero)).size
    · have e4 := hy hz
      rcases h3.cut2 hB with ⟨Da, ea, ha, hb, hc⟩ | ⟨Da, ea, _⟩
      · rw [ea] at e4; injection e4 with e4 _; subst e4; exact ha.done hb hc
      · rw [ea] at e4; injection e4 with _ e4; omega
    · rw [hn4 (by omega)]
      refine h3.done hB ?_
      have hw := h3.r.ow
      rw [rd_ws hw] at hz
      obtain ⟨x, hx⟩ : ∃ x, x = D3.l.getD o' Fl.zero := ⟨_, rfl⟩
      rw [← hx] at hw hz ⊢
      obtain ⟨s, ws⟩ := x
      cases hw
      have : s = ⟨#[]⟩ := bs_inj (List.length_eq_zero_iff.1 (by rw [length_bs]; dsimp only at hz; omega) |>.trans rfl)
      rw [this]; rfl
end
end Go.Proofs.YtilpbjcbffbjeaaGreatDoor
