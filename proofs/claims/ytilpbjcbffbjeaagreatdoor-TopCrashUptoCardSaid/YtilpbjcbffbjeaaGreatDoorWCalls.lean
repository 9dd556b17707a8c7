/- A log's calls, whether the power goes in them or not: what becomes of its files. -/
import Derived.Test.YtilpbjcbffbjeaaGreatDoorWRest
import Derived.Test.YtilpbjcbffbjeaaGreatDoorWCpG
import Derived.Test.YtilpbjcbffbjeaaGreatDoorPkI
namespace Go.Proofs.YtilpbjcbffbjeaaGreatDoor
set_option linter.unusedVariables false
set_option maxRecDepth 100000
open Go.RowKit
set_option linter.unusedSectionVars false
variable [Avoid]
/-- The power stayed; the other files are as they were. -/
structure Alive (D D' : Dk) (f : Nat) : Prop where
  ok : DOk D'
  al : D'.dead = false
  ch : D'.ch = D.ch
  ar : D.armed = 0 → D'.armed = 0
  len : D'.l.length = D.l.length
  other : ∀ j, j ≠ f → j ≠ f + 1 → D'.l.getD j Fl.zero = D.l.getD j Fl.zero
/-- The power went; the other files are what it left. -/
structure GoneD (D D' : Dk) (f : Nat) : Prop where
  ok : DOk D'
  dd : D'.dead = true
  ch : D'.ch = D.ch
  ar : D.armed ≠ 0
  len : D'.l.length = D.l.length
  other : ∀ j, j ≠ f → j ≠ f + 1 → j < D.l.length → ∃ cs, D'.l.getD j Fl.zero = ⟨left (D.l.getD j Fl.zero) cs, []⟩
theorem Lives.alive {D D' : Dk} {l' : List Fl} {f : Nat} (h : Lives D D' l') (hl : l'.length = D.l.length) (ho : ∀ j, j ≠ f → j ≠ f + 1 → l'.getD j Fl.zero = D.l.getD j Fl.zero) : Alive D D' f :=
  ⟨h.ok, h.al, h.ch, h.ar, by rw [h.l]; exact hl, fun j h1 h2 => by rw [h.l]; exact ho j h1 h2⟩
theorem Dies.gone {D D' : Dk} {l' : List Fl} {f : Nat} (h : Dies D D' l') (hl : l'.length = D.l.length) (ho : ∀ j, j ≠ f → j ≠ f + 1 → l'.getD j Fl.zero = D.l.getD j Fl.zero) : GoneD D D' f :=
  ⟨h.ok, h.dd, h.ch, h.ar, h.l.1.trans hl, fun j h1 h2 h3 => by
    obtain ⟨cs, e⟩ := h.l.2 j (by rw [hl]; exact h3)
    exact ⟨cs, by rw [e, ho j h1 h2]⟩⟩
theorem Alive.trans {D D1 D2 : Dk} {f : Nat} (h : Alive D D1 f) (k : Alive D1 D2 f) : Alive D D2 f :=
  ⟨k.ok, k.al, k.ch.trans h.ch, fun a => k.ar (h.ar a), k.len.trans h.len, fun j h1 h2 => (k.other j h1 h2).trans (h.other j h1 h2)⟩
theorem Alive.gone {D D1 D2 : Dk} {f : Nat} (h : Alive D D1 f) (k : GoneD D1 D2 f) : GoneD D D2 f :=
  ⟨k.ok, k.dd, k.ch.trans h.ch, fun a => k.ar (h.ar a), k.len.trans h.len, fun j h1 h2 h3 => by
    obtain ⟨cs, e⟩ := k.other j h1 h2 (by rw [h.len]; exact h3)
    exact ⟨cs, by rw [e, h.other j h1 h2]⟩⟩
inductive AppR (D : Dk) (L : Lg) (M f : Nat) (snap : ByteArray) (ps : List ByteArray) (k : Nat) (s : ByteArray) : Int → Dk → Lg → Prop
  | long : 16384 < s.size → AppR D L M f snap ps k s 171 D L
  | full : s.size ≤ 16384 → roomZ (rd (D.l.getD L.counts Fl.zero)).size L.n < (s.size : Int) → AppR D L M f snap ps k s 172 D L
  | ok (D' : Dk) : s.size ≤ 16384 → Alive D D' f → LC D'.l M f { L with n := L.n + 1 } snap (ps ++ [s]) k → AppR D L M f snap ps k s 0 D' { L with n := L.n + 1 }
  | gone (D' : Dk) : s.size ≤ 16384 → GoneD D D' f → (∃ j, k ≤ j ∧ j ≤ ps.length + 1 ∧ Rest D'.l M f snap ((ps ++ [s]).take j)) → AppR D L M f snap ps k s 2 D' { L with dead := true }
inductive SynR (D : Dk) (L : Lg) (M f : Nat) (snap : ByteArray) (ps : List ByteArray) (k : Nat) : Int → Dk → Lg → Prop
  | ok (D' : Dk) : Alive D D' f → LC D'.l M f L snap ps ps.length → SynR D L M f snap ps k 0 D' L
  | gone (D' : Dk) : GoneD D D' f → (∃ j, k ≤ j ∧ j ≤ ps.length ∧ Rest D'.l M f snap (ps.take j)) → SynR D L M f snap ps k 2 D' { L with dead := true }
inductive CpR (D : Dk) (L : Lg) (M f : Nat) (snap : ByteArray) (ps : List ByteArray) (k : Nat) (s : ByteArray) : Int → Dk → Lg → Prop
  | long : 16384 < s.size → CpR D L M f snap ps k s 171 D L
  | ok (D' : Dk) (L' : Lg) : s.size ≤ 16384 → Alive D D' f → LC D'.l (M + 1) f L' s [] 0 → CpR D L M f snap ps k s 0 D' L'
  | gone (D' : Dk) : s.size ≤ 16384 → GoneD D D' f → (Rest D'.l (M + 1) f s [] ∨ ∃ j, k ≤ j ∧ j ≤ ps.length ∧ Rest D'.l (M + 1) f snap (ps.take j)) → CpR D L M f snap ps k s 2 D' { L with dead := true }
section
variable {B b g cap lb : Nat} {w0 w : World} {D : Dk} {L : Lg} {M f k : Nat} {snap : ByteArray} {ps : List ByteArray}
theorem LC.set_c (h : LC D.l M f L snap ps k) (x : Fl) : (D.l.set L.counts x).length = D.l.length ∧ ∀ j, j ≠ f → j ≠ f + 1 → (D.l.set L.counts x).getD j Fl.zero = D.l.getD j Fl.zero :=
  ⟨List.length_set, fun j h1 h2 => getD_set_ne _ _ _ _ _ (by have := h.counts; omega)⟩
theorem LC.set_o (h : LC D.l M f L snap ps k) (x : Fl) : (D.l.set L.other x).length = D.l.length ∧ ∀ j, j ≠ f → j ≠ f + 1 → (D.l.set L.other x).getD j Fl.zero = D.l.getD j Fl.zero :=
  ⟨List.length_set, fun j h1 h2 => getD_set_ne _ _ _ _ _ (by have := h.oth.1; omega)⟩
theorem LAt.appR (h : LAt B w0 b g cap lb D L w) (hok : DOk D) (al : D.dead = false) (hi : LC D.l M f L snap ps k) (hm : Many D) (s : ByteArray) :
    Calls Tryz.prog 74 #[.pointer (some ⟨lb, 0, none⟩), .string s] w fun e w' => ∃ r D' L', e = .returned (.int .i64 r) ∧ LAt B w0 b g cap lb D' L' w' ∧ Chg (fun k => k = lb ∨ k = b ∨ k = g) w w' ∧ AppR D L M f snap ps k s r D' L' := by
  have hcl := hi.cl
  have hfew := hi.few hok.size
  by_cases h1 : 16384 < s.size
  · exact (appendLong h.log s hi.live h1).mono fun e w' ⟨q1, q2⟩ => ⟨171, D, L, q1, q2 ▸ h, q2 ▸ Chg.refl _ _, .long h1⟩
  by_cases h2 : roomZ (rd (D.l.getD L.counts Fl.zero)).size L.n < (s.size : Int)
  · exact (appendFull h.log h.on.disk hok s hi.live (by omega) hcl h2).mono fun e w' ⟨q1, q2⟩ => ⟨172, D, L, q1, h.grow q2, Chg.of_below _ q2, .full (by omega) h2⟩
  obtain ⟨r1, r2, r3⟩ := room_ge h2
  have hset := hi.set_c (D := D) ⟨(D.l.getD L.counts Fl.zero).safe, (D.l.getD L.counts Fl.zero).ws ++ [recS (L.n + 1) s]⟩
  have happ := hi.app s r3
  rcases writeX_c hok al L.counts (recS (L.n + 1) s) hcl (by rw [size_recS]; omega) (hm _ hcl) with ⟨D', e, hl⟩ | ⟨D', e, hl⟩
  · exact (h.appendC hok s hi.live r3 hcl h2 hm e).mono fun e' w' ⟨q1, q2, q3⟩ => ⟨0, D', _, q1, q2, q3, .ok D' r3 (hl.alive hset.1 hset.2) (by rw [hl.l]; exact happ)⟩
  · refine (appendGone h.log h.on.disk hok s hi.live r3 hcl h2 hm (by rw [e])).mono fun e' w' ⟨q1, q2, q3, q4⟩ => ?_
    rw [e] at q3
    obtain ⟨j, j1, j2, j3⟩ := happ.died (by rw [List.length_append, List.length_singleton]; omega) hl.l
    rw [List.length_append, List.length_singleton] at j2
    exact ⟨2, D', _, q1, h.chg q3 q2 q4, q4, .gone D' r3 (hl.gone hset.1 hset.2) ⟨j, j1, j2, j3⟩⟩
theorem LAt.synR (h : LAt B w0 b g cap lb D L w) (hok : DOk D) (al : D.dead = false) (hi : LC D.l M f L snap ps k) :
    Calls Tryz.prog 76 #[.pointer (some ⟨lb, 0, none⟩)] w fun e w' => ∃ r D' L', e = .returned (.int .i64 r) ∧ LAt B w0 b g cap lb D' L' w' ∧ Chg (fun k => k = lb ∨ k = b ∨ k = g) w w' ∧ SynR D L M f snap ps k r D' L' := by
  have hcl := hi.cl
  have hfew := hi.few hok.size
  have hset := hi.set_c (D := D) ⟨rd (D.l.getD L.counts Fl.zero), []⟩
  rcases syncX_c hok al L.counts hcl with ⟨D', e, hl⟩ | ⟨D', e, hl⟩
  · exact (h.syncC hok hi.live e).mono fun e' w' ⟨q1, q2, q3⟩ => ⟨0, D', _, q1, q2, q3, .ok D' (hl.alive hset.1 hset.2) (by rw [hl.l]; exact hi.syn)⟩
  · refine (syncLGone h.log h.on.disk hok hi.live (by rw [e])).mono fun e' w' ⟨q1, q2, q3, q4⟩ => ?_
    rw [e] at q3
    exact ⟨2, D', _, q1, h.chg q3 q2 q4, q4, .gone D' (hl.gone rfl (fun _ _ _ => rfl)) (hi.died (by omega) hl.l)⟩
theorem LAt.cpR (h : LAt B w0 b g cap lb D L w) (hok : DOk D) (al : D.dead = false) (hi : LC D.l M f L snap ps k) (hM : M < 1099511627776) (hm : Many D) (s : ByteArray) :
    Calls Tryz.prog 78 #[.pointer (some ⟨lb, 0, none⟩), .string s] w fun e w' => ∃ r D' L', e = .returned (.int .i64 r) ∧ LAt B w0 b g cap lb D' L' w' ∧ Chg (fun k => k = lb ∨ k = b ∨ k = g) w w' ∧ CpR D L M f snap ps k s r D' L' := by
  have hcl := hi.cl
  have ho := hi.oth
  have hfew := hi.few hok.size
  have hg := hi.gen2
  have hn := hok.n
  have hf1 := hi.first
  have hf2 := hi.f1
  by_cases h1 : 16384 < s.size
  · exact (checkpointLong h.log s hi.live h1).mono fun e w' ⟨q1, q2⟩ => ⟨171, D, L, q1, h.grow q2, Chg.of_below _ q2, .long h1⟩
  have hs : s.size ≤ 16384 := by omega
  have hput : (⟨(D.l.getD L.other Fl.zero).safe, (D.l.getD L.other Fl.zero).ws ++ [recS (L.gen + 1) s]⟩ : Fl) = ⟨⟨#[]⟩, [recS (L.gen + 1) s]⟩ := by rw [hi.other]; rfl
  have hset1 := hi.set_o (D := D) ⟨⟨#[]⟩, [recS (L.gen + 1) s]⟩
  have hz : (rd Fl.zero).size = 0 := by rw [rd_zero]; rfl
  have W1 := writeX_c hok al L.other (recS (L.gen + 1) s) ho.2.2.1 (by rw [hi.other, hz, size_recS]; omega) (hm _ ho.2.2.1)
  rw [hput] at W1
  rcases W1 with ⟨D1, e1, l1⟩ | ⟨D1, e1, l1⟩
  rotate_left
  · refine (checkpointGone0 h.log h.on.disk hok s hi.live hs (by omega) (by omega) (by omega) hm L.other ho.2.2.2 D1 e1).mono fun e' w' ⟨q1, q2, q3, q4⟩ => ?_
    exact ⟨2, D1, _, q1, h.chg q3 q2 q4, q4, .gone D1 hs (l1.gone hset1.1 hset1.2) (hi.died_cp (by omega) hM s hs l1.l)⟩
  have a1 := l1.alive (f := f) hset1.1 hset1.2
  have g1o : D1.l.getD L.other Fl.zero = ⟨⟨#[]⟩, [recS (L.gen + 1) s]⟩ := by rw [l1.l, getD_set_self _ _ _ _ ho.2.2.1]
  have g1c : D1.l.getD L.counts Fl.zero = D.l.getD L.counts Fl.zero := by rw [l1.l, getD_set_ne _ _ _ _ _ ho.2.1]
  have hset2 : (D1.l.set L.other ⟨rd (D1.l.getD L.other Fl.zero), []⟩).length = D1.l.length ∧ ∀ j, j ≠ f → j ≠ f + 1 → (D1.l.set L.other ⟨rd (D1.l.getD L.other Fl.zero), []⟩).getD j Fl.zero = D1.l.getD j Fl.zero :=
    ⟨List.length_set, fun j h1 h2 => getD_set_ne _ _ _ _ _ (by omega)⟩
  rcases syncX_c l1.ok l1.al L.other (by rw [a1.len]; exact ho.2.2.1) with ⟨D2, e2, l2⟩ | ⟨D2, e2, l2⟩
  rotate_left
  · refine (checkpointGone1 h.log h.on.disk hok s hi.live hs (by omega) (by omega) (by omega) hm L.other ho.2.2.2 D1 D2 e1 e2 l1.ok).mono fun e' w' ⟨q1, q2, q3, q4⟩ => ?_
    exact ⟨2, D2, _, q1, h.chg q3 q2 q4, q4, .gone D2 hs (a1.gone (l2.gone rfl (fun _ _ _ => rfl))) (hi.died_cp (by omega) hM s hs (by have := l2.l; rw [l1.l] at this; exact this))⟩
  have a2 := a1.trans (l2.alive (f := f) hset2.1 hset2.2)
  have g2o : D2.l.getD L.other Fl.zero = ⟨recS (L.gen + 1) s, []⟩ := by rw [l2.l, getD_set_self _ _ _ _ (by rw [a1.len]; exact ho.2.2.1), g1o, rd_one]
  have g2c : D2.l.getD L.counts Fl.zero = D.l.getD L.counts Fl.zero := by rw [l2.l, getD_set_ne _ _ _ _ _ ho.2.1, g1c]
  have hset3 : (D2.l.set L.counts ⟨rd (D2.l.getD L.counts Fl.zero), []⟩).length = D2.l.length ∧ ∀ j, j ≠ f → j ≠ f + 1 → (D2.l.set L.counts ⟨rd (D2.l.getD L.counts Fl.zero), []⟩).getD j Fl.zero = D2.l.getD j Fl.zero :=
    ⟨List.length_set, fun j h1 h2 => getD_set_ne _ _ _ _ _ (by have := hi.counts; omega)⟩
  rcases syncX_c l2.ok l2.al L.counts (by rw [a2.len]; exact hcl) with ⟨D3, e3, l3⟩ | ⟨D3, e3, l3⟩
  rotate_left
  · refine (checkpointGone2 h.log h.on.disk hok s hi.live hs (by omega) (by omega) (by omega) hm L.other ho.2.2.2 D1 D2 D3 e1 e2 e3 l1.ok l2.ok).mono fun e' w' ⟨q1, q2, q3, q4⟩ => ?_
    exact ⟨2, D3, _, q1, h.chg q3 q2 q4, q4, .gone D3 hs (a2.gone (l3.gone rfl (fun _ _ _ => rfl))) (.inl (hi.died_cp2 (by omega) hM s hs a2.len g2o (.inl g2c) l3.l))⟩
  have a3 := a2.trans (l3.alive (f := f) hset3.1 hset3.2)
  have g3o : D3.l.getD L.other Fl.zero = ⟨recS (L.gen + 1) s, []⟩ := by rw [l3.l, getD_set_ne _ _ _ _ _ (Ne.symm ho.2.1), g2o]
  have g3c : D3.l.getD L.counts Fl.zero = ⟨rd (D.l.getD L.counts Fl.zero), []⟩ := by rw [l3.l, getD_set_self _ _ _ _ (by rw [a2.len]; exact hcl), g2c]
  rcases cutX_c l3.ok l3.al L.counts 0 (by rw [a3.len]; exact hcl) (by rw [g3c]) (Nat.zero_le _) with ⟨D4, e4, l4⟩ | ⟨D4, e4, l4⟩
  rotate_left
  · refine (checkpointGone3 h.log h.on.disk hok s hi.live hs (by omega) (by omega) (by omega) hm L.other ho.2.2.2 D1 D2 D3 D4 e1 e2 e3 e4 l1.ok l2.ok l3.ok).mono fun e' w' ⟨q1, q2, q3, q4⟩ => ?_
    exact ⟨2, D4, _, q1, h.chg q3 q2 q4, q4, .gone D4 hs (a3.gone (l4.gone rfl (fun _ _ _ => rfl))) (.inl (hi.died_cp2 (by omega) hM s hs a3.len g3o (.inr g3c) l4.l))⟩
  have hset4 : (D3.l.set L.counts ⟨(D3.l.getD L.counts Fl.zero).safe.extract 0 0, []⟩).length = D3.l.length ∧ ∀ j, j ≠ f → j ≠ f + 1 → (D3.l.set L.counts ⟨(D3.l.getD L.counts Fl.zero).safe.extract 0 0, []⟩).getD j Fl.zero = D3.l.getD j Fl.zero :=
    ⟨List.length_set, fun j h1 h2 => getD_set_ne _ _ _ _ _ (by have := hi.counts; omega)⟩
  have a4 := a3.trans (l4.alive (f := f) hset4.1 hset4.2)
  have g4o : D4.l.getD L.other Fl.zero = ⟨recS (L.gen + 1) s, []⟩ := by rw [l4.l, getD_set_ne _ _ _ _ _ (Ne.symm ho.2.1), g3o]
  have e0 : (D3.l.getD L.counts Fl.zero).safe.extract 0 0 = ⟨#[]⟩ := bs_inj (by rw [bs_extract]; simp; rfl)
  have g4c : D4.l.getD L.counts Fl.zero = Fl.zero := by rw [l4.l, getD_set_self _ _ _ _ (by rw [a3.len]; exact hcl), e0]; rfl
  exact (h.checkpointC hok s hi.live hs (by omega) (by omega) (by omega) hm L.other ho.2.2.2 D1 D2 D3 e1 e2 e3 e4 l1.ok l2.ok l3.ok).mono fun e' w' ⟨q1, q2, q3⟩ =>
    ⟨0, D4, _, q1, q2, q3, .ok D4 _ hs a4 (hi.cp s hs a4.len g4o g4c)⟩
end
/-- Opened: the program's answer, for files at rest. -/
inductive OpenR (D : Dk) (M f : Nat) (snap : ByteArray) (ps : List ByteArray) (D' : Dk) : OR → Prop
  | gone : GoneD D D' f → Rest D'.l M f snap ps → OpenR D M f snap ps D' (.err 2)
  | ok (L : Lg) : Alive D D' f → LC D'.l M f L snap ps ps.length → OpenR D M f snap ps D' (.ok L (bs snap) (ps.map bs))
theorem Opened.r {D D' : Dk} {M f : Nat} {snap : ByteArray} {ps : List ByteArray} {r : OR} (h : Opened D M f snap ps D' r) : OpenR D M f snap ps D' r := by
  cases h with
  | gone h1 h2 h3 h4 h5 h6 h7 => exact .gone ⟨h4, h1, h3, h2, h6, h7⟩ h5
  | «open» L h1 h2 h3 h4 h5 h6 h7 => exact .ok L ⟨h4, h1, h3, h2, h6, h7⟩ h5
theorem map_strOf (ps : List ByteArray) : (ps.map bs).map strOf = ps := by
  rw [List.map_map]
  conv => rhs; rw [← List.map_id ps]
  exact List.map_congr_left fun s _ => strOf_bs s
section
variable {B b g cap : Nat} {w0 w : World} {D : Dk} {M f : Nat} {snap : ByteArray} {ps : List ByteArray}
theorem At.openRest (h : At B w0 b g cap D w) (hok : DOk D) (al : D.dead = false) (hi : Rest D.l M f snap ps) (hM : M ≤ 1099511627776) :
    Calls Tryz.prog 77 #[.pointer (some ⟨b, 0, none⟩), .int .i64 (f : Nat)] w fun e w' => ∃ D', Chg (fun k => k = b ∨ k = g) w w' ∧
      ((e = .returned (.tuple #[.pointer none, .string ⟨#[]⟩, .slice none 0 0, .int .i64 2]) ∧ At B w0 b g cap D' w' ∧ GoneD D D' f ∧ Rest D'.l M f snap ps) ∨
       (∃ lb v L, e = .returned (.tuple #[.pointer (some ⟨lb, 0, none⟩), .string snap, v, .int .i64 0]) ∧ w.heap.size ≤ lb ∧ LAt B w0 b g cap lb D' L w' ∧ OwnsS w' w.heap.size v ps ∧ Alive D D' f ∧ LC D'.l M f L snap ps ps.length)) := by
  obtain ⟨D', r, hc, _⟩ := OC.total hok (f : Nat)
  have ho := (hi.open hok al hM hc).r
  refine (openA h.disk hok hc).mono fun e w' ⟨q1, q2, q3⟩ => ⟨D', q3, ?_⟩
  cases ho with
  | gone h1 h2 => exact .inl ⟨q1, h.chg q2 q3, h1, h2⟩
  | ok L h1 h2 =>
    obtain ⟨lb, v, p1, p2, p3, p4⟩ := q1
    rw [strOf_bs] at p1
    rw [map_strOf] at p4
    exact .inr ⟨lb, v, L, p1, p2, ⟨h.chg q2 q3, p3, by have := h.below.size; have := h.le; omega⟩, p4, h1, h2⟩
end
end Go.Proofs.YtilpbjcbffbjeaaGreatDoor
