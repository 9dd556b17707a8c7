/- A log's files in plain terms: what each call makes of them while the disk lives. -/
import Derived.Test.YtilpbjcbffbjeaaGreatDoorPkI
namespace Go.Proofs.YtilpbjcbffbjeaaGreatDoor
set_option linter.unusedVariables false
set_option maxRecDepth 100000
open Go.RowKit
/-! The disk's calls while it lives. -/
theorem dk0_outL {l : List Fl} {f : Nat} (hf : f < l.length) : (dk0 l).out (f : Nat) = false := out_no (by omega) (by show (f : Int) < (l.length : Int); omega)
theorem writeX_L (l : List Fl) (f : Nat) (s : ByteArray) (hf : f < l.length) (hs : (rd (l.getD f Fl.zero)).size + s.size ≤ 262144) :
    (dk0 l).writeX (f : Nat) s = (dk0 (l.set f ⟨(l.getD f Fl.zero).safe, (l.getD f Fl.zero).ws ++ [s]⟩), 0) := by
  unfold Dk.writeX
  rw [if_neg (show ¬ (dk0 l).dead = true from Bool.false_ne_true), if_neg (by rw [dk0_outL hf]; exact Bool.false_ne_true), Int.toNat_natCast, show (dk0 l).l = l from rfl, if_neg (show ¬ 262144 < (rd (l.getD f Fl.zero)).size + s.size by omega)]
  rfl
theorem syncX_L (l : List Fl) (f : Nat) (hf : f < l.length) : (dk0 l).syncX (f : Nat) = (dk0 (l.set f ⟨rd (l.getD f Fl.zero), []⟩), 0) := by
  unfold Dk.syncX
  rw [if_neg (show ¬ (dk0 l).dead = true from Bool.false_ne_true), if_neg (by rw [dk0_outL hf]; exact Bool.false_ne_true)]
  rfl
theorem cutX_L (l : List Fl) (f n : Nat) (hf : f < l.length) (h0 : (l.getD f Fl.zero).ws = []) (hn : n ≤ (l.getD f Fl.zero).safe.size) : (dk0 l).cutX (f : Nat) (n : Nat) = (dk0 (l.set f ⟨(l.getD f Fl.zero).safe.extract 0 n, []⟩), 0) := by
  unfold Dk.cutX
  rw [if_neg (show ¬ (dk0 l).dead = true from Bool.false_ne_true), if_neg (by rw [dk0_outL hf]; exact Bool.false_ne_true), Int.toNat_natCast, Int.toNat_natCast, show (dk0 l).l = l from rfl, h0, if_neg (by simp only [List.length_nil]; omega)]
  show (((dk0 l).tick.setf f ⟨(l.getD f Fl.zero).safe.extract 0 n, (l.getD f Fl.zero).ws⟩, 0) : Dk × Int) = _
  rw [h0]
  rfl
theorem rdL_put (x : Fl) (s : ByteArray) : rdL ⟨x.safe, x.ws ++ [s]⟩ = rdL x ++ bs s := by
  unfold rdL; rw [cat_append, List.append_assoc]; simp [cat]
theorem rdL_rd (x : Fl) : rdL ⟨rd x, []⟩ = rdL x := by
  show bs (rd x) ++ cat [] = rdL x
  rw [bs_rd, cat_nil, List.append_nil]
theorem size_rdL (x : Fl) : (rd x).size = (rdL x).length := by unfold rd; rw [size_strOf]
theorem rd_sync (x : Fl) : rd ⟨rd x, []⟩ = rd x := rd_safe (rd x)
theorem rd_one (s : ByteArray) : rd ⟨⟨#[]⟩, [s]⟩ = s := bs_inj (by rw [bs_rd]; unfold rdL; simp [cat]; rfl)
theorem rd_zero : rd Fl.zero = ⟨#[]⟩ := by kernel_rfl
theorem MInv.mono {l : List Fl} {n m : Nat} (h : MInv l n) (hm : n ≤ m) : MInv l m := ⟨h.n, h.pos, h.size, fun f hf => Nat.le_trans (h.many f hf) hm⟩
theorem MInv.setL {l : List Fl} {n : Nat} (h : MInv l n) (f : Nat) (x : Fl) (h1 : (rd x).size ≤ 262144) (h2 : x.ws.length ≤ n) : MInv (l.set f x) n := by
  refine ⟨by rw [List.length_set]; exact h.n, by rw [List.length_set]; exact h.pos, fun i hi => ?_, fun i hi => ?_⟩
  all_goals
    rw [List.length_set] at hi
    by_cases e : f = i
    · subst e; rw [getD_set_self _ _ _ _ hi]; first | exact h1 | exact h2
    · rw [getD_set_ne _ _ _ _ _ e]; first | exact h.size i hi | exact h.many i hi
theorem MInv.manyL {l : List Fl} {n : Nat} (h : MInv l n) (hn : n < 1099511627776) : Many (dk0 l) := fun f hf => Nat.lt_of_le_of_lt (h.many f hf) hn
/-! What each call makes of the files. -/
def Lg.other (L : Lg) : Nat := 2 * L.first + 1 - L.counts
def appX (l : List Fl) (L : Lg) (s : ByteArray) : Int × List Fl × Lg :=
  if 16384 < s.size then (171, l, L)
  else if roomZ (rd (l.getD L.counts Fl.zero)).size L.n < (s.size : Int) then (172, l, L)
  else (0, l.set L.counts ⟨(l.getD L.counts Fl.zero).safe, (l.getD L.counts Fl.zero).ws ++ [recS (L.n + 1) s]⟩, { L with n := L.n + 1 })
def synX (l : List Fl) (L : Lg) : Int × List Fl × Lg := (0, l.set L.counts ⟨rd (l.getD L.counts Fl.zero), []⟩, L)
def cpX (l : List Fl) (L : Lg) (s : ByteArray) : Int × List Fl × Lg :=
  if 16384 < s.size then (171, l, L)
  else (0, (l.set L.other ⟨recS (L.gen + 1) s, []⟩).set L.counts Fl.zero, { L with counts := L.other, gen := L.gen + 1, n := 0 })
/-- A log in two files: a snapshot, the records behind it. -/
structure LInv (l : List Fl) (M f : Nat) (L : Lg) (snap : ByteArray) (ps : List ByteArray) : Prop where
  m : MInv l M
  f1 : f + 1 < l.length
  first : L.first = f
  counts : L.counts = f ∨ L.counts = f + 1
  live : L.dead = false
  n : L.n = ps.length
  gen1 : 1 ≤ L.gen
  gen2 : L.gen ≤ M
  bytes : rdL (l.getD L.counts Fl.zero) = recL L.gen (bs snap) ++ recsL 0 (ps.map bs)
  other : l.getD L.other Fl.zero = Fl.zero
  sn : snap.size ≤ 16384
  pl : ∀ p ∈ ps, p.size ≤ 16384
section
variable {l : List Fl} {M f : Nat} {L : Lg} {snap : ByteArray} {ps : List ByteArray}
theorem LInv.cl (h : LInv l M f L snap ps) : L.counts < l.length := by have := h.f1; have := h.counts; omega
theorem LInv.oth (h : LInv l M f L snap ps) : (L.other = f ∨ L.other = f + 1) ∧ L.other ≠ L.counts ∧ L.other < l.length ∧ 2 * (L.first : Int) + 1 - (L.counts : Int) = (L.other : Nat) := by
  have h1 := h.first
  have h2 := h.counts
  have h3 := h.f1
  unfold Lg.other
  rw [h1]
  omega
theorem LInv.mono (h : LInv l M f L snap ps) {M' : Nat} (hm : M ≤ M') : LInv l M' f L snap ps := ⟨h.m.mono hm, h.f1, h.first, h.counts, h.live, h.n, h.gen1, Nat.le_trans h.gen2 hm, h.bytes, h.other, h.sn, h.pl⟩
theorem LInv.size (h : LInv l M f L snap ps) : (rd (l.getD L.counts Fl.zero)).size = 19 + snap.size + lens (ps.map bs) := by
  rw [size_rdL, h.bytes, List.length_append, length_recL, length_recsL, length_bs]
theorem LInv.few (h : LInv l M f L snap ps) : 19 * ps.length + 19 ≤ 262144 := by
  have h1 := h.size
  have h2 := h.m.size L.counts h.cl
  have h3 := lens_ge (ps.map bs)
  rw [List.length_map] at h3
  omega
/-- Append. -/
theorem LInv.app (h : LInv l M f L snap ps) (s : ByteArray) : ∃ ps', LInv (appX l L s).2.1 (M + 1) f (appX l L s).2.2 snap ps' ∧ (((appX l L s).1 = 0 ∧ ps' = ps ++ [s] ∧ s.size ≤ 16384) ∨ (((appX l L s).1 = 171 ∨ (appX l L s).1 = 172) ∧ ps' = ps ∧ (appX l L s).2 = (l, L))) := by
  unfold appX
  by_cases h1 : 16384 < s.size
  · rw [if_pos h1]
    exact ⟨ps, h.mono (by omega), .inr ⟨.inl rfl, rfl, rfl⟩⟩
  rw [if_neg h1]
  by_cases h2 : roomZ (rd (l.getD L.counts Fl.zero)).size L.n < (s.size : Int)
  · rw [if_pos h2]
    exact ⟨ps, h.mono (by omega), .inr ⟨.inr rfl, rfl, rfl⟩⟩
  rw [if_neg h2]
  obtain ⟨r1, r2, r3⟩ := room_ge h2
  have hc := h.cl
  have ho := h.oth
  refine ⟨ps ++ [s], ⟨?_, by rw [List.length_set]; exact h.f1, h.first, h.counts, h.live, by rw [List.length_append, List.length_singleton, ← h.n], h.gen1, Nat.le_trans h.gen2 (by omega), ?_, ?_, h.sn, ?_⟩, .inl ⟨rfl, rfl, r3⟩⟩
  · refine (h.m.mono (Nat.le_succ M)).setL _ _ ?_ ?_
    · rw [size_rdL, rdL_put, List.length_append, length_bs, size_recS, ← size_rdL]; omega
    · rw [List.length_append, List.length_singleton]; have := h.m.many L.counts hc; omega
  · show rdL ((l.set L.counts _).getD L.counts Fl.zero) = recL L.gen (bs snap) ++ recsL 0 ((ps ++ [s]).map bs)
    rw [getD_set_self _ _ _ _ hc, rdL_put, h.bytes, List.map_append, List.map_singleton, recsL_snoc, bs_recS, List.length_map, Nat.zero_add, h.n, List.append_assoc]
  · show (l.set L.counts _).getD L.other Fl.zero = Fl.zero
    rw [getD_set_ne _ _ _ _ _ (Ne.symm ho.2.1)]; exact h.other
  · intro p hp
    rcases List.mem_append.1 hp with hp | hp
    · exact h.pl p hp
    · rw [List.mem_singleton.1 hp]; exact r3
/-- Sync. -/
theorem LInv.syn (h : LInv l M f L snap ps) : LInv (synX l L).2.1 M f L snap ps := by
  have hc := h.cl
  have ho := h.oth
  refine ⟨h.m.setL _ _ (by rw [rd_sync]; exact h.m.size L.counts hc) (Nat.zero_le _), by show f + 1 < (l.set _ _).length; rw [List.length_set]; exact h.f1, h.first, h.counts, h.live, h.n, h.gen1, h.gen2, ?_, ?_, h.sn, h.pl⟩
  · show rdL ((l.set L.counts _).getD L.counts Fl.zero) = _
    rw [getD_set_self _ _ _ _ hc, rdL_rd, h.bytes]
  · show (l.set L.counts _).getD L.other Fl.zero = Fl.zero
    rw [getD_set_ne _ _ _ _ _ (Ne.symm ho.2.1)]; exact h.other
/-- Checkpoint. -/
theorem LInv.cp (h : LInv l M f L snap ps) (s : ByteArray) : ∃ snap' ps', LInv (cpX l L s).2.1 (M + 1) f (cpX l L s).2.2 snap' ps' ∧ (((cpX l L s).1 = 0 ∧ snap' = s ∧ ps' = [] ∧ s.size ≤ 16384) ∨ ((cpX l L s).1 = 171 ∧ snap' = snap ∧ ps' = ps ∧ (cpX l L s).2 = (l, L))) := by
  unfold cpX
  by_cases h1 : 16384 < s.size
  · rw [if_pos h1]
    exact ⟨snap, ps, h.mono (by omega), .inr ⟨rfl, rfl, rfl, rfl⟩⟩
  rw [if_neg h1]
  have hc := h.cl
  have ho := h.oth
  have hf := h.first
  refine ⟨s, [], ⟨?_, by rw [List.length_set, List.length_set]; exact h.f1, h.first, ho.1, h.live, rfl, by show 1 ≤ L.gen + 1; omega, Nat.succ_le_succ h.gen2, ?_, ?_, by omega, fun p hp => by cases hp⟩, .inl ⟨rfl, rfl, rfl, by omega⟩⟩
  · refine ((h.m.mono (Nat.le_succ M)).setL _ _ ?_ (Nat.zero_le _)).setL _ _ (by rw [rd_zero]; decide) (Nat.zero_le _)
    rw [rd_safe, size_recS]; omega
  · show rdL (((l.set L.other _).set L.counts _).getD L.other Fl.zero) = _
    rw [getD_set_ne _ _ _ _ _ (Ne.symm ho.2.1), getD_set_self _ _ _ _ ho.2.2.1]
    show bs (recS (L.gen + 1) s) ++ cat [] = recL (L.gen + 1) (bs s) ++ []
    rw [bs_recS]; rfl
  · have e : ({ L with counts := L.other, gen := L.gen + 1, n := 0 } : Lg).other = L.counts := by
      unfold Lg.other
      dsimp only
      have h2 := h.counts
      have h3 := ho.1
      unfold Lg.other at h3
      rw [hf] at h3 ⊢
      omega
    rw [e]
    show ((l.set L.other _).set L.counts Fl.zero).getD L.counts Fl.zero = Fl.zero
    rw [getD_set_self _ _ _ _ (by rw [List.length_set]; exact hc)]
end
end Go.Proofs.YtilpbjcbffbjeaaGreatDoor
