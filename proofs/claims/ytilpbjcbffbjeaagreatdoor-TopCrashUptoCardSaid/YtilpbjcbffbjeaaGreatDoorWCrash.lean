/- A log's files where the power goes: what a crash leaves, in plain terms; what an opening finds. No program in sight. -/
import Derived.Test.YtilpbjcbffbjeaaGreatDoorPkE
import Derived.Test.YtilpbjcbffbjeaaGreatDoorPkJ
import Derived.Test.YtilpbjcbffbjeaaGreatDoorWInv
namespace Go.Proofs.YtilpbjcbffbjeaaGreatDoor
set_option linter.unusedVariables false
/-- Files as the power's going leaves them. -/
def Died (l l' : List Fl) : Prop := l'.length = l.length ∧ ∀ j, j < l.length → ∃ cs, l'.getD j Fl.zero = ⟨left (l.getD j Fl.zero) cs, []⟩
/-- A change of the disk in which the power stayed. -/
structure Lives (D D' : Dk) (l' : List Fl) : Prop where
  ok : DOk D'
  al : D'.dead = false
  l : D'.l = l'
  ch : D'.ch = D.ch
  ar : D.armed = 0 → D'.armed = 0
/-- One in which it went. -/
structure Dies (D D' : Dk) (l' : List Fl) : Prop where
  ok : DOk D'
  dd : D'.dead = true
  l : Died l' D'.l
  ch : D'.ch = D.ch
  ar : D.armed ≠ 0
theorem died_l (D : Dk) (css : List (List Int)) : Died D.l (D.died css).l := by
  refine ⟨by show ((D.after css).map _).length = _; rw [List.length_map, length_after], fun j hj => ⟨css.getD j [], ?_⟩⟩
  show ((D.after css).map (fun s => (⟨s, []⟩ : Fl))).getD j Fl.zero = _
  rw [List.getD_eq_getElem?_getD, List.getElem?_map]
  unfold Dk.after
  rw [List.getElem?_map, List.getElem?_range hj]
  rfl
theorem writeX_c {D : Dk} (hok : DOk D) (hd : D.dead = false) (f : Nat) (s : ByteArray) (hf : f < D.l.length) (hs : (rd (D.l.getD f Fl.zero)).size + s.size ≤ 262144) (hm : (D.l.getD f Fl.zero).ws.length < 1099511627776) :
    (∃ D', D.writeX (f : Nat) s = (D', 0) ∧ Lives D D' (D.l.set f ⟨(D.l.getD f Fl.zero).safe, (D.l.getD f Fl.zero).ws ++ [s]⟩)) ∨ (∃ D', D.writeX (f : Nat) s = (D', 2) ∧ Dies D D' (D.l.set f ⟨(D.l.getD f Fl.zero).safe, (D.l.getD f Fl.zero).ws ++ [s]⟩)) := by
  have hp : DOk (D.put f s) := hok.setf f _ (by rw [size_rdL, rdL_put, List.length_append, length_bs, ← size_rdL]; exact hs) (by rw [List.length_append, List.length_singleton]; omega)
  unfold Dk.writeX
  rw [if_neg (by rw [hd]; exact Bool.false_ne_true), if_neg (by rw [out_no (by omega) (by omega)]; exact Bool.false_ne_true), Int.toNat_natCast, if_neg (by omega)]
  unfold Dk.write
  by_cases h1 : D.armed = 1
  · rw [if_pos h1]
    exact .inr ⟨_, rfl, hp.tick.died _, rfl, died_l (D.put f s).tick D.ch, rfl, by omega⟩
  · rw [if_neg h1]
    exact .inl ⟨_, rfl, hp.tick, hd, rfl, rfl, fun h => by show D.armed - 1 = 0; omega⟩
theorem syncX_c {D : Dk} (hok : DOk D) (hd : D.dead = false) (f : Nat) (hf : f < D.l.length) :
    (∃ D', D.syncX (f : Nat) = (D', 0) ∧ Lives D D' (D.l.set f ⟨rd (D.l.getD f Fl.zero), []⟩)) ∨ (∃ D', D.syncX (f : Nat) = (D', 2) ∧ Dies D D' D.l) := by
  unfold Dk.syncX
  rw [if_neg (by rw [hd]; exact Bool.false_ne_true), if_neg (by rw [out_no (by omega) (by omega)]; exact Bool.false_ne_true), Int.toNat_natCast]
  unfold Dk.sync
  by_cases h1 : D.armed = 1
  · rw [if_pos h1]
    exact .inr ⟨_, rfl, hok.tick.died _, rfl, died_l D.tick D.ch, rfl, by omega⟩
  · rw [if_neg h1]
    exact .inl ⟨_, rfl, hok.tick.setf f _ (by rw [rd_safe]; exact hok.size f hf) (Nat.zero_le _), hd, rfl, rfl, fun h => by show D.armed - 1 = 0; omega⟩
theorem rd_ws {x : Fl} (h : x.ws = []) : rd x = x.safe := by
  obtain ⟨s, ws⟩ := x
  cases h
  exact rd_safe s
theorem cutX_c {D : Dk} (hok : DOk D) (hd : D.dead = false) (f n : Nat) (hf : f < D.l.length) (hw : (D.l.getD f Fl.zero).ws = []) (hn : n ≤ (D.l.getD f Fl.zero).safe.size) :
    (∃ D', D.cutX (f : Nat) (n : Nat) = (D', 0) ∧ Lives D D' (D.l.set f ⟨(D.l.getD f Fl.zero).safe.extract 0 n, []⟩)) ∨ (∃ D', D.cutX (f : Nat) (n : Nat) = (D', 2) ∧ Dies D D' D.l) := by
  have hz := hok.size f hf
  rw [rd_ws hw] at hz
  have nd : ¬ (0 < (D.l.getD f Fl.zero).ws.length ∨ (n : Int) < 0 ∨ ((D.l.getD f Fl.zero).safe.size : Int) < (n : Int)) := by
    rintro (a | a | a)
    · rw [hw] at a; exact absurd a (by decide)
    · omega
    · omega
  unfold Dk.cutX
  rw [if_neg (by rw [hd]; exact Bool.false_ne_true), if_neg (by rw [out_no (by omega) (by omega)]; exact Bool.false_ne_true), Int.toNat_natCast, Int.toNat_natCast, if_neg nd]
  unfold Dk.cut
  rw [hw]
  by_cases h1 : D.armed = 1
  · rw [if_pos h1]
    exact .inr ⟨_, rfl, hok.tick.died _, rfl, died_l D.tick D.ch, rfl, by omega⟩
  · rw [if_neg h1]
    refine .inl ⟨_, rfl, hok.tick.setf f _ ?_ (Nat.zero_le _), hd, rfl, rfl, fun h => by show D.armed - 1 = 0; omega⟩
    rw [rd_safe, ByteArray.size_extract]; omega
/-- The file that counts: what is safe of it ends behind its first k records. -/
structure Cnt (x : Fl) (gen : Nat) (snap : ByteArray) (ps : List ByteArray) (k : Nat) : Prop where
  kl : k ≤ ps.length
  safe : bs x.safe = recL gen (bs snap) ++ recsL 0 ((ps.take k).map bs)
  ws : x.ws.map bs = recW k ((ps.drop k).map bs)
theorem cat_flat (ss : List ByteArray) : cat ss = (ss.map bs).flatMap id := by
  induction ss with
  | nil => rfl
  | cons s ss ih => rw [cat_cons, ih, List.map_cons, List.flatMap_cons]; rfl
theorem Cnt.rdL {x : Fl} {gen : Nat} {snap : ByteArray} {ps : List ByteArray} {k : Nat} (h : Cnt x gen snap ps k) : rdL x = recL gen (bs snap) ++ recsL 0 (ps.map bs) := by
  show bs x.safe ++ cat x.ws = _
  rw [cat_flat, h.safe, h.ws, recW_flat, List.append_assoc]
  congr 1
  have e := recsL_append ((ps.take k).map bs) ((ps.drop k).map bs) 0
  rw [← List.map_append, List.take_append_drop, List.length_map, List.length_take, Nat.min_eq_left h.kl, Nat.zero_add] at e
  exact e.symm
/-- What a crash leaves of it. -/
theorem Cnt.crash {x : Fl} {gen : Nat} {snap : ByteArray} {ps : List ByteArray} {k : Nat} (h : Cnt x gen snap ps k) (hp : ∀ p ∈ ps, p.size ≤ 16384) (hl : ps.length ≤ 1099511627776) (cs : List Int) :
    ∃ j B, k ≤ j ∧ j ≤ ps.length ∧ bs (left x cs) = recL gen (bs snap) ++ (recsL 0 ((ps.take j).map bs) ++ B) ∧ whole B = none := by
  have hk := h.kl
  obtain ⟨j, B, hj, hT, hB⟩ := crash_recs cs ((ps.drop k).map bs) k 0 (fun p hp' => by
    obtain ⟨q, hq, rfl⟩ := List.mem_map.1 hp'
    exact ⟨by rw [length_bs]; exact hp q (List.mem_of_mem_drop hq), bs_lt q⟩) (by rw [List.length_map, List.length_drop]; omega)
  rw [List.length_map, List.length_drop] at hj
  refine ⟨k + j, B, by omega, by omega, ?_, hB⟩
  rw [bs_left, leftL_tl, h.safe, h.ws, hT, List.append_assoc]
  congr 1
  rw [← List.append_assoc]
  congr 1
  have e := recsL_append ((ps.take k).map bs) (((ps.drop k).take j).map bs) 0
  rw [List.length_map, List.length_take, Nat.min_eq_left hk, Nat.zero_add] at e
  rw [← List.map_take, ← e, ← List.map_append, List.take_add]
/-- A log in two files, live: a snapshot, records, of which the first k are safe. -/
structure LC (l : List Fl) (M f : Nat) (L : Lg) (snap : ByteArray) (ps : List ByteArray) (k : Nat) : Prop where
  f1 : f + 1 < l.length
  first : L.first = f
  counts : L.counts = f ∨ L.counts = f + 1
  live : L.dead = false
  n : L.n = ps.length
  gen1 : 1 ≤ L.gen
  gen2 : L.gen ≤ M
  cnt : Cnt (l.getD L.counts Fl.zero) L.gen snap ps k
  other : l.getD L.other Fl.zero = Fl.zero
  sn : snap.size ≤ 16384
  pl : ∀ p ∈ ps, p.size ≤ 16384
/-- A log in two files that are all safe, to be opened. -/
structure Rest1 (l : List Fl) (M f : Nat) (snap : ByteArray) (ps : List ByteArray) (c o gen : Nat) : Prop where
  f1 : f + 1 < l.length
  co : c = f ∧ o = f + 1 ∨ c = f + 1 ∧ o = f
  cw : (l.getD c Fl.zero).ws = []
  ow : (l.getD o Fl.zero).ws = []
  cb : ∃ B, bs (l.getD c Fl.zero).safe = recL gen (bs snap) ++ (recsL 0 (ps.map bs) ++ B) ∧ whole B = none
  ob : ∀ n q, whole (bs (l.getD o Fl.zero).safe) = some (n, q) → n < gen
  gen1 : 1 ≤ gen
  gen2 : gen ≤ M
  sn : snap.size ≤ 16384
  pl : ∀ p ∈ ps, p.size ≤ 16384
def Rest (l : List Fl) (M f : Nat) (snap : ByteArray) (ps : List ByteArray) : Prop := ∃ c o gen, Rest1 l M f snap ps c o gen
section
variable {l l' : List Fl} {M f k : Nat} {L : Lg} {snap : ByteArray} {ps : List ByteArray}
theorem LC.cl (h : LC l M f L snap ps k) : L.counts < l.length := by have := h.f1; have := h.counts; omega
theorem LC.oth (h : LC l M f L snap ps k) : (L.other = f ∨ L.other = f + 1) ∧ L.other ≠ L.counts ∧ L.other < l.length ∧ 2 * (L.first : Int) + 1 - (L.counts : Int) = (L.other : Nat) := by
  have h1 := h.first
  have h2 := h.counts
  have h3 := h.f1
  unfold Lg.other
  rw [h1]
  omega
theorem LC.mono (h : LC l M f L snap ps k) {M' : Nat} (hm : M ≤ M') : LC l M' f L snap ps k := ⟨h.f1, h.first, h.counts, h.live, h.n, h.gen1, Nat.le_trans h.gen2 hm, h.cnt, h.other, h.sn, h.pl⟩
theorem LC.size (h : LC l M f L snap ps k) : (rd (l.getD L.counts Fl.zero)).size = 19 + snap.size + lens (ps.map bs) := by
  rw [size_rdL, h.cnt.rdL, List.length_append, length_recL, length_recsL, length_bs]
theorem LC.few (h : LC l M f L snap ps k) (hz : ∀ f, f < l.length → (rd (l.getD f Fl.zero)).size ≤ 262144) : 19 * ps.length + 19 ≤ 262144 := by
  have h1 := h.size
  have h2 := hz L.counts h.cl
  have h3 := lens_ge (ps.map bs)
  rw [List.length_map] at h3
  omega
/-- It hangs on its two files alone. -/
theorem LC.frame (h : LC l M f L snap ps k) (hl : l'.length = l.length) (h0 : l'.getD f Fl.zero = l.getD f Fl.zero) (h1 : l'.getD (f + 1) Fl.zero = l.getD (f + 1) Fl.zero) : LC l' M f L snap ps k := by
  have hc := h.counts
  have ho := h.oth.1
  refine ⟨by rw [hl]; exact h.f1, h.first, h.counts, h.live, h.n, h.gen1, h.gen2, ?_, ?_, h.sn, h.pl⟩
  · rcases hc with e | e
    · rw [e, h0, ← e]; exact h.cnt
    · rw [e, h1, ← e]; exact h.cnt
  · rcases ho with e | e
    · rw [e, h0, ← e]; exact h.other
    · rw [e, h1, ← e]; exact h.other
theorem Rest.frame (h : Rest l M f snap ps) (hl : l'.length = l.length) (h0 : l'.getD f Fl.zero = l.getD f Fl.zero) (h1 : l'.getD (f + 1) Fl.zero = l.getD (f + 1) Fl.zero) : Rest l' M f snap ps := by
  obtain ⟨c, o, gen, h⟩ := h
  have e : l'.getD c Fl.zero = l.getD c Fl.zero ∧ l'.getD o Fl.zero = l.getD o Fl.zero := by
    rcases h.co with ⟨e1, e2⟩ | ⟨e1, e2⟩
    · rw [e1, e2]; exact ⟨h0, h1⟩
    · rw [e1, e2]; exact ⟨h1, h0⟩
  exact ⟨c, o, gen, by rw [hl]; exact h.f1, h.co, by rw [e.1]; exact h.cw, by rw [e.2]; exact h.ow, by rw [e.1]; exact h.cb, by rw [e.2]; exact h.ob, h.gen1, h.gen2, h.sn, h.pl⟩
theorem Rest.mono (h : Rest l M f snap ps) {M' : Nat} (hm : M ≤ M') : Rest l M' f snap ps := by
  obtain ⟨c, o, gen, h⟩ := h
  exact ⟨c, o, gen, h.f1, h.co, h.cw, h.ow, h.cb, h.ob, h.gen1, Nat.le_trans h.gen2 hm, h.sn, h.pl⟩
theorem left_ws {x : Fl} (h : x.ws = []) (cs : List Int) : (⟨left x cs, []⟩ : Fl) = x := by
  obtain ⟨s, ws⟩ := x
  cases h
  rw [left_nil]
/-- Files at rest stay so. -/
theorem Rest.died (h : Rest l M f snap ps) (hd : Died l l') : Rest l' M f snap ps := by
  have h2 := h
  obtain ⟨c, o, gen, h1⟩ := h
  have hf := h1.f1
  have e : l'.getD c Fl.zero = l.getD c Fl.zero ∧ l'.getD o Fl.zero = l.getD o Fl.zero := by
    have hc : c < l.length ∧ o < l.length := by rcases h1.co with e | e <;> omega
    obtain ⟨cs, e1⟩ := hd.2 c hc.1
    obtain ⟨cs2, e2⟩ := hd.2 o hc.2
    rw [e1, e2, left_ws h1.cw, left_ws h1.ow]
    exact ⟨rfl, rfl⟩
  rcases h1.co with ⟨e1, e2⟩ | ⟨e1, e2⟩
  · rw [e1, e2] at e; exact h2.frame hd.1 e.1 e.2
  · rw [e1, e2] at e; exact h2.frame hd.1 e.2 e.1
/-- The power goes: a beginning of the records, with all that were safe. -/
theorem LC.died (h : LC l M f L snap ps k) (hl : ps.length ≤ 1099511627776) (hd : Died l l') : ∃ j, k ≤ j ∧ j ≤ ps.length ∧ Rest l' M f snap (ps.take j) := by
  obtain ⟨cs, ec⟩ := hd.2 L.counts h.cl
  obtain ⟨cs2, eo⟩ := hd.2 L.other h.oth.2.2.1
  obtain ⟨j, B, h1, h2, h3, h4⟩ := h.cnt.crash h.pl hl cs
  have ho := h.oth
  have hc := h.counts
  rw [h.other] at eo
  have ez : (⟨left Fl.zero cs2, []⟩ : Fl) = Fl.zero := left_ws rfl cs2
  rw [ez] at eo
  refine ⟨j, h1, h2, L.counts, L.other, L.gen, by rw [hd.1]; exact h.f1, by omega, by rw [ec], by rw [eo]; rfl, ⟨B, by rw [ec]; exact h3, h4⟩, fun n q hw => ?_, h.gen1, h.gen2, h.sn, fun p hp => h.pl p (List.mem_of_mem_take hp)⟩
  rw [eo] at hw
  have hw0 : whole (bs (Fl.zero).safe) = none := by kernel_rfl
  rw [hw0] at hw
  cases hw
/-- All of it is safe: it stays. -/
theorem LC.rest (h : LC l M f L snap ps ps.length) : Rest l M f snap ps := by
  have ho := h.oth
  have hc := h.counts
  have hw := h.cnt.ws
  have hs := h.cnt.safe
  rw [List.drop_length] at hw
  rw [List.take_length] at hs
  refine ⟨L.counts, L.other, L.gen, h.f1, by omega, by simpa [recW] using hw, by rw [h.other]; rfl, ⟨[], by rw [List.append_nil]; exact hs, whole_nil⟩, fun n q hw => ?_, h.gen1, h.gen2, h.sn, h.pl⟩
  rw [h.other] at hw
  have hw0 : whole (bs (Fl.zero).safe) = none := by kernel_rfl
  rw [hw0] at hw
  cases hw
/-- A record is written. -/
theorem LC.app (h : LC l M f L snap ps k) (s : ByteArray) (hs : s.size ≤ 16384) :
    LC (l.set L.counts ⟨(l.getD L.counts Fl.zero).safe, (l.getD L.counts Fl.zero).ws ++ [recS (L.n + 1) s]⟩) M f { L with n := L.n + 1 } snap (ps ++ [s]) k := by
  have hc := h.cl
  have ho := h.oth
  have hk := h.cnt.kl
  refine ⟨by rw [List.length_set]; exact h.f1, h.first, h.counts, h.live, by rw [List.length_append, List.length_singleton, ← h.n], h.gen1, h.gen2, ?_, ?_, h.sn, ?_⟩
  · show Cnt ((l.set L.counts _).getD L.counts Fl.zero) _ _ _ _
    rw [getD_set_self _ _ _ _ hc]
    refine ⟨by rw [List.length_append]; omega, ?_, ?_⟩
    · show bs (l.getD L.counts Fl.zero).safe = _
      rw [List.take_append_of_le_length hk]; exact h.cnt.safe
    · show ((l.getD L.counts Fl.zero).ws ++ [recS (L.n + 1) s]).map bs = _
      rw [List.drop_append_of_le_length hk, List.map_append, List.map_append, h.cnt.ws, List.map_singleton, List.map_singleton, recW_snoc, bs_recS, h.n, List.length_map, List.length_drop, show k + (ps.length - k) + 1 = ps.length + 1 by omega]
  · show (l.set L.counts _).getD L.other Fl.zero = Fl.zero
    rw [getD_set_ne _ _ _ _ _ (Ne.symm ho.2.1)]; exact h.other
  · intro p hp
    rcases List.mem_append.1 hp with hp | hp
    · exact h.pl p hp
    · rw [List.mem_singleton.1 hp]; exact hs
/-- All is made safe. -/
theorem LC.syn (h : LC l M f L snap ps k) : LC (l.set L.counts ⟨rd (l.getD L.counts Fl.zero), []⟩) M f L snap ps ps.length := by
  have hc := h.cl
  have ho := h.oth
  refine ⟨by rw [List.length_set]; exact h.f1, h.first, h.counts, h.live, h.n, h.gen1, h.gen2, ?_, ?_, h.sn, h.pl⟩
  · rw [getD_set_self _ _ _ _ hc]
    refine ⟨Nat.le_refl _, ?_, ?_⟩
    · show bs (rd (l.getD L.counts Fl.zero)) = _
      rw [bs_rd, h.cnt.rdL, List.take_length]
    · rw [List.drop_length]; rfl
  · rw [getD_set_ne _ _ _ _ _ (Ne.symm ho.2.1)]; exact h.other
theorem cnt_one (gen : Nat) (s : ByteArray) (cs : List Int) (hs : s.size ≤ 16384) (hg : gen + 1 ≤ 1099511627776) : bs (left ⟨⟨#[]⟩, [recS (gen + 1) s]⟩ cs) = recL (gen + 1) (bs s) ∨ whole (bs (left ⟨⟨#[]⟩, [recS (gen + 1) s]⟩ cs)) = none := by
  have e : bs (left ⟨⟨#[]⟩, [recS (gen + 1) s]⟩ cs) = tl cs 0 (recW gen [bs s]) := by
    rw [bs_left, leftL_tl]
    show bs ⟨#[]⟩ ++ tl cs 0 [bs (recS (gen + 1) s)] = _
    rw [bs_recS]
    rfl
  rw [e, recW, tl_cons, recW, tl_nil, if_pos rfl, length_recL]
  by_cases hc : kpt cs 0 (19 + (bs s).length) = 19 + (bs s).length
  · rw [hc, List.take_of_length_le (by rw [length_recL]; omega)]
    exact .inl rfl
  · have := kpt_le cs 0 (19 + (bs s).length)
    exact .inr (whole_cut _ _ (by rw [length_bs]; exact hs) _ (by omega))
/-- The power goes where a snapshot was written into the other file: the one or the other. -/
theorem LC.died_cp (h : LC l M f L snap ps k) (hl : ps.length ≤ 1099511627776) (hM : M < 1099511627776) (s : ByteArray) (hs : s.size ≤ 16384) (hd : Died (l.set L.other ⟨⟨#[]⟩, [recS (L.gen + 1) s]⟩) l') :
    Rest l' (M + 1) f s [] ∨ ∃ j, k ≤ j ∧ j ≤ ps.length ∧ Rest l' (M + 1) f snap (ps.take j) := by
  have ho := h.oth
  have hc := h.counts
  have hg := h.gen2
  obtain ⟨cs, ec⟩ := hd.2 L.counts (by rw [List.length_set]; exact h.cl)
  obtain ⟨cs2, eo⟩ := hd.2 L.other (by rw [List.length_set]; exact ho.2.2.1)
  rw [getD_set_ne _ _ _ _ _ ho.2.1] at ec
  rw [getD_set_self _ _ _ _ ho.2.2.1] at eo
  have hf1 : f + 1 < l'.length := by rw [hd.1, List.length_set]; exact h.f1
  obtain ⟨j, B, h1, h2, h3, h4⟩ := h.cnt.crash h.pl hl cs
  rcases cnt_one L.gen s cs2 hs (by omega) with e | e
  · refine .inl ⟨L.other, L.counts, L.gen + 1, hf1, by omega, by rw [eo], by rw [ec], ⟨[], by rw [eo]; show bs (left _ cs2) = _; rw [e]; simp [recsL], whole_nil⟩, fun n q hw => ?_, by omega, by omega, hs, fun p hp => by cases hp⟩
    rw [ec, h3, whole_rec _ _ _ h.gen1 (by omega) (by rw [length_bs]; exact h.sn)] at hw
    injection hw with hw
    injection hw with hw _
    omega
  · refine .inr ⟨j, h1, h2, L.counts, L.other, L.gen, hf1, by omega, by rw [ec], by rw [eo], ⟨B, by rw [ec]; exact h3, h4⟩, fun n q hw => ?_, h.gen1, by omega, h.sn, fun p hp => h.pl p (List.mem_of_mem_take hp)⟩
    rw [eo] at hw
    rw [show (⟨left ⟨⟨#[]⟩, [recS (L.gen + 1) s]⟩ cs2, []⟩ : Fl).safe = left ⟨⟨#[]⟩, [recS (L.gen + 1) s]⟩ cs2 from rfl, e] at hw
    cases hw
/-- The power goes where the snapshot is safe: that is what is left. -/
theorem LC.died_cp2 (h : LC l M f L snap ps k) (hl : ps.length ≤ 1099511627776) (hM : M < 1099511627776) (s : ByteArray) (hs : s.size ≤ 16384) {l2 : List Fl} (hn : l2.length = l.length) (h0 : l2.getD L.other Fl.zero = ⟨recS (L.gen + 1) s, []⟩)
    (h1 : l2.getD L.counts Fl.zero = l.getD L.counts Fl.zero ∨ l2.getD L.counts Fl.zero = ⟨rd (l.getD L.counts Fl.zero), []⟩) (hd : Died l2 l') : Rest l' (M + 1) f s [] := by
  have ho := h.oth
  have hc := h.counts
  have hg := h.gen2
  obtain ⟨cs, ec⟩ := hd.2 L.counts (by rw [hn]; exact h.cl)
  obtain ⟨cs2, eo⟩ := hd.2 L.other (by rw [hn]; exact ho.2.2.1)
  rw [h0, left_nil] at eo
  have hf1 : f + 1 < l'.length := by rw [hd.1, hn]; exact h.f1
  have hw : ∃ B, bs (l'.getD L.counts Fl.zero).safe = recL L.gen (bs snap) ++ B := by
    rcases h1 with h1 | h1
    · obtain ⟨j, B, _, _, h3, _⟩ := h.cnt.crash h.pl hl cs
      exact ⟨_, by rw [ec, h1]; exact h3⟩
    · rw [ec, h1, left_nil]
      exact ⟨_, by show bs (rd _) = _; rw [bs_rd]; exact h.cnt.rdL⟩
  obtain ⟨B, hB⟩ := hw
  refine ⟨L.other, L.counts, L.gen + 1, hf1, by omega, by rw [eo], by rw [ec], ⟨[], by rw [eo]; show bs (recS _ _) = _; rw [bs_recS]; simp [recsL], whole_nil⟩, fun n q hw => ?_, by omega, by omega, hs, fun p hp => by cases hp⟩
  rw [hB, whole_rec _ _ _ h.gen1 (by omega) (by rw [length_bs]; exact h.sn)] at hw
  injection hw with hw
  injection hw with hw _
  omega
/-- The snapshot stands in the place of all. -/
theorem LC.cp (h : LC l M f L snap ps k) (s : ByteArray) (hs : s.size ≤ 16384) {l2 : List Fl} (hn : l2.length = l.length) (h0 : l2.getD L.other Fl.zero = ⟨recS (L.gen + 1) s, []⟩) (h1 : l2.getD L.counts Fl.zero = Fl.zero) :
    LC l2 (M + 1) f { L with counts := L.other, gen := L.gen + 1, n := 0 } s [] 0 := by
  have ho := h.oth
  have hf := h.first
  have hg := h.gen2
  refine ⟨by rw [hn]; exact h.f1, h.first, ho.1, h.live, rfl, by show 1 ≤ L.gen + 1; omega, by show L.gen + 1 ≤ M + 1; omega, ?_, ?_, hs, fun p hp => by cases hp⟩
  · show Cnt (l2.getD L.other Fl.zero) _ _ _ _
    rw [h0]
    exact ⟨Nat.le_refl _, by show bs (recS _ _) = _; rw [bs_recS]; simp [recsL], rfl⟩
  · have e : ({ L with counts := L.other, gen := L.gen + 1, n := 0 } : Lg).other = L.counts := by
      unfold Lg.other
      dsimp only
      have h2 := h.counts
      have h3 := ho.1
      unfold Lg.other at h3
      rw [hf] at h3 ⊢
      omega
    rw [e, h1]
end
end Go.Proofs.YtilpbjcbffbjeaaGreatDoor
