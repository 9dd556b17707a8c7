/- A disk behind a script of writes, syncs and cuts: plain. -/
import Derived.Test.YtamaefnlicloaaaDoorDLaw1
namespace Go.Proofs.YtamaefnlicloaaaDoor
open Go.RowKit
/-- A call of a script. -/
structure Opv where
  on : Int
  kind : Int
  f : Int
  n : Int
  s : ByteArray
  ch : List (List Int)
def Opv.zero : Opv := ⟨0, 0, 0, 0, ⟨#[]⟩, []⟩
/-- What it does to its file, the power being there. -/
def flOp (o : Opv) (x : Fl) : Fl :=
  if o.kind = 0 then (if 262144 < (rd x).size + o.s.size then x else ⟨x.safe, x.ws ++ [o.s]⟩)
  else if o.kind = 1 then ⟨rd x, []⟩
  else if o.kind = 2 then (if 0 < x.ws.length ∨ o.n < 0 ∨ (x.safe.size : Int) < o.n then x else ⟨x.safe.extract 0 o.n.toNat, x.ws⟩)
  else x
def mkL (l : List Fl) (o : Opv) : List Fl := if 0 ≤ o.f ∧ o.f < l.length then l.set o.f.toNat (flOp o (l.getD o.f.toNat Fl.zero)) else l
theorem length_mkL (l : List Fl) (o : Opv) : (mkL l o).length = l.length := by unfold mkL; split <;> simp
/-- A disk whose power is there, with nothing armed. -/
def dk0 (l : List Fl) : Dk := ⟨l, 0, [], false⟩
theorem out_dk0 (l : List Fl) (f : Int) : (dk0 l).out f = false ↔ 0 ≤ f ∧ f < l.length := by
  unfold Dk.out
  rw [decide_eq_false_iff_not, show (dk0 l).l = l from rfl]
  omega
theorem set_self (l : List Fl) (f : Nat) : l.set f (l.getD f Fl.zero) = l := by
  by_cases h : f < l.length
  · rw [List.getD_eq_getElem?_getD, List.getElem?_eq_getElem h]; simp
  · rw [List.set_eq_of_length_le (by omega)]
theorem writeX_dk0 (l : List Fl) (o : Opv) (hk : o.kind = 0) : ((dk0 l).writeX o.f o.s).1 = dk0 (mkL l o) := by
  unfold Dk.writeX mkL
  rw [if_neg (show ¬ (dk0 l).dead = true from Bool.false_ne_true)]
  by_cases ho : (dk0 l).out o.f = true
  · rw [if_pos ho, if_neg (fun h => by rw [(out_dk0 l o.f).2 h] at ho; cases ho)]
  · rw [if_neg ho, if_pos ((out_dk0 l o.f).1 (by simpa using ho))]
    unfold flOp
    rw [if_pos hk]
    show (if 262144 < (rd (l.getD o.f.toNat Fl.zero)).size + o.s.size then _ else _ : Dk × Int).1 = _
    split
    · show dk0 l = _
      rw [set_self]
    · rfl
theorem syncX_dk0 (l : List Fl) (o : Opv) (hk : o.kind = 1) : ((dk0 l).syncX o.f).1 = dk0 (mkL l o) := by
  unfold Dk.syncX mkL
  rw [if_neg (show ¬ (dk0 l).dead = true from Bool.false_ne_true)]
  by_cases ho : (dk0 l).out o.f = true
  · rw [if_pos ho, if_neg (fun h => by rw [(out_dk0 l o.f).2 h] at ho; cases ho)]
  · rw [if_neg ho, if_pos ((out_dk0 l o.f).1 (by simpa using ho))]
    unfold flOp
    rw [if_neg (by rw [hk]; decide), if_pos hk]
    rfl
theorem cutX_dk0 (l : List Fl) (o : Opv) (hk : o.kind = 2) : ((dk0 l).cutX o.f o.n).1 = dk0 (mkL l o) := by
  unfold Dk.cutX mkL
  rw [if_neg (show ¬ (dk0 l).dead = true from Bool.false_ne_true)]
  by_cases ho : (dk0 l).out o.f = true
  · rw [if_pos ho, if_neg (fun h => by rw [(out_dk0 l o.f).2 h] at ho; cases ho)]
  · rw [if_neg ho, if_pos ((out_dk0 l o.f).1 (by simpa using ho))]
    have hfl : ∀ x, flOp o x = if 0 < x.ws.length ∨ o.n < 0 ∨ (x.safe.size : Int) < o.n then x else ⟨x.safe.extract 0 o.n.toNat, x.ws⟩ := fun x => by unfold flOp; rw [if_neg (by rw [hk]; decide), if_neg (by rw [hk]; decide), if_pos hk]
    rw [hfl]
    show (if 0 < (l.getD o.f.toNat Fl.zero).ws.length ∨ o.n < 0 ∨ ((l.getD o.f.toNat Fl.zero).safe.size : Int) < o.n then _ else _ : Dk × Int).1 = _
    split
    · show dk0 l = _
      rw [set_self]
    · rfl
theorem mkL_other (l : List Fl) (o : Opv) (h0 : o.kind ≠ 0) (h1 : o.kind ≠ 1) (h2 : o.kind ≠ 2) : mkL l o = l := by
  unfold mkL flOp
  rw [if_neg h0, if_neg h1, if_neg h2, set_self, ite_self]
/-- What a script keeps to. -/
structure MInv (l : List Fl) (m : Nat) : Prop where
  n : l.length ≤ 32
  pos : 0 < l.length
  size : ∀ f, f < l.length → (rd (l.getD f Fl.zero)).size ≤ 262144
  many : ∀ f, f < l.length → (l.getD f Fl.zero).ws.length ≤ m
theorem MInv.ok {l : List Fl} {n : Nat} (h : MInv l n) (hn : n ≤ 1099511627776) : DOk (dk0 l) := ⟨h.n, h.pos, h.size, fun f hf => Nat.le_trans (h.many f hf) hn, Nat.zero_le _, fun _ => Nat.zero_le _⟩
theorem flOp_ok (o : Opv) (x : Fl) (n : Nat) (h1 : (rd x).size ≤ 262144) (h2 : x.ws.length ≤ n) : (rd (flOp o x)).size ≤ 262144 ∧ (flOp o x).ws.length ≤ n + 1 := by
  unfold flOp
  split
  · split
    · exact ⟨h1, by omega⟩
    · rw [rd_put, List.length_append]
      exact ⟨by omega, by simp; omega⟩
  split
  · rw [rd_safe]; exact ⟨h1, Nat.zero_le _⟩
  split
  · split
    · exact ⟨h1, by omega⟩
    · rename_i hc
      refine ⟨?_, by dsimp only; omega⟩
      have h0 : x.ws = [] := List.eq_nil_of_length_eq_zero (by omega)
      rw [h0, rd_safe]
      rw [size_rd, h0] at h1
      rw [ByteArray.size_extract]
      omega
  · exact ⟨h1, by omega⟩
theorem MInv.step {l : List Fl} {n : Nat} (h : MInv l n) (o : Opv) : MInv (mkL l o) (n + 1) := by
  refine ⟨by rw [length_mkL]; exact h.n, by rw [length_mkL]; exact h.pos, fun f hf => ?_, fun f hf => ?_⟩
  all_goals
    rw [length_mkL] at hf
    have hx := flOp_ok o (l.getD f Fl.zero) n (h.size f hf) (h.many f hf)
    unfold mkL
    split
    · by_cases e : o.f.toNat = f
      · subst e; rw [getD_set_self _ _ _ _ hf]; first | exact hx.1 | exact hx.2
      · rw [getD_set_ne _ _ _ _ _ e]; first | exact h.size f hf | exact Nat.le_succ_of_le (h.many f hf)
    · first | exact h.size f hf | exact Nat.le_succ_of_le (h.many f hf)
/-- The files behind a script. -/
def mk (ss : List ByteArray) (os : List Opv) : List Fl := os.foldl mkL (ss.map fun s => ⟨s, []⟩)
theorem mk_snoc (ss : List ByteArray) (os : List Opv) (o : Opv) : mk ss (os ++ [o]) = mkL (mk ss os) o := by unfold mk; rw [List.foldl_append]; rfl
theorem mk_inv {ss : List ByteArray} (h : newErr ss = 0) (os : List Opv) : MInv (mk ss os) os.length := by
  have h0 := newDk_ok h
  suffices ∀ (os : List Opv) (l : List Fl) (n : Nat), MInv l n → MInv (os.foldl mkL l) (n + os.length) by
    have := this os (ss.map fun s => ⟨s, []⟩) 0 ⟨h0.n, h0.pos, h0.size, fun f hf => by
      have : f < ss.length := by rw [List.length_map] at hf; exact hf
      rw [List.getD_eq_getElem?_getD, List.getElem?_map, List.getElem?_eq_getElem this]; exact Nat.le_refl _⟩
    rw [Nat.zero_add] at this
    exact this
  intro os
  induction os with
  | nil => intro l n h; exact h
  | cons o os ih =>
    intro l n h
    have := ih (mkL l o) (n + 1) (h.step o)
    rw [List.length_cons, show n + (os.length + 1) = n + 1 + os.length by omega]
    exact this
theorem length_mk (ss : List ByteArray) (os : List Opv) : (mk ss os).length = ss.length := by
  suffices ∀ (os : List Opv) (l : List Fl), (os.foldl mkL l).length = l.length by unfold mk; rw [this, List.length_map]
  intro os
  induction os with
  | nil => intro l; rfl
  | cons o os ih => intro l; rw [List.foldl_cons, ih, length_mkL]
/-- A file hangs on its own calls alone. -/
theorem mk_own (ss : List ByteArray) (os : List Opv) (one : Nat) (p : Opv → Bool) (hp : ∀ o, p o = decide (o.f = (one : Int))) : (mk ss os).getD one Fl.zero = (mk ss (os.filter p)).getD one Fl.zero := by
  suffices ∀ (os : List Opv) (l l' : List Fl), l.length = l'.length → l.getD one Fl.zero = l'.getD one Fl.zero → (os.foldl mkL l).getD one Fl.zero = ((os.filter p).foldl mkL l').getD one Fl.zero from this os _ _ rfl rfl
  intro os
  induction os with
  | nil => intro l l' _ h; exact h
  | cons o os ih =>
    intro l l' hl h
    rw [List.foldl_cons]
    by_cases ho : o.f = (one : Int)
    · rw [List.filter_cons, hp, decide_eq_true ho, if_pos rfl, List.foldl_cons]
      refine ih _ _ (by rw [length_mkL, length_mkL, hl]) ?_
      unfold mkL
      rw [ho, Int.toNat_natCast, h, hl]
      split
      · rw [getD_set_self _ _ _ _ (by omega), getD_set_self _ _ _ _ (by omega)]
      · exact h
    · rw [List.filter_cons, hp, decide_eq_false ho]
      refine ih _ _ (by rw [length_mkL, hl]) ?_
      rw [← h]
      unfold mkL
      split
      · rw [getD_set_ne _ _ _ _ _ (by omega)]
      · rfl
/-- The value of a slice of calls. -/
def OpAt (w : World) (b off : Nat) (o : Opv) : Prop :=
  w.cell? ⟨b, off, none⟩ = some (.int .i64 o.on) ∧ w.cell? ⟨b, off + 1, none⟩ = some (.int .i64 o.kind) ∧ w.cell? ⟨b, off + 2, none⟩ = some (.int .i64 o.f) ∧ w.cell? ⟨b, off + 3, none⟩ = some (.int .i64 o.n) ∧
    w.cell? ⟨b, off + 4, none⟩ = some (.string o.s) ∧ ∃ cv, w.cell? ⟨b, off + 5, none⟩ = some cv ∧ Rss w cv o.ch
def Ops (w : World) (v : Value) (os : List Opv) : Prop :=
  ∃ p cap, v = .slice p os.length cap ∧ ∀ i, i < os.length → ∃ b off, p = some ⟨b, off, none⟩ ∧ OpAt w b (off + i * 6) (os.getD i Opv.zero)
theorem OpAt.below {w w' : World} {b off : Nat} {o : Opv} (h : OpAt w b off o) (hb : Below w.heap.size w w') : OpAt w' b off o := by
  obtain ⟨h0, h1, h2, h3, h4, cv, h5, h6⟩ := h
  have k := fun (a : Addr) (v : Value) (hc : w.cell? a = some v) => (hb.cell (block_lt_of_cell hc)).trans hc
  exact ⟨k _ _ h0, k _ _ h1, k _ _ h2, k _ _ h3, k _ _ h4, cv, k _ _ h5, h6.below hb⟩
theorem Ops.below {w w' : World} {v : Value} {os : List Opv} (h : Ops w v os) (hb : Below w.heap.size w w') : Ops w' v os := by
  obtain ⟨p, cap, rfl, hc⟩ := h
  exact ⟨p, cap, rfl, fun i hi => by obtain ⟨b, off, hp, ho⟩ := hc i hi; exact ⟨b, off, hp, ho.below hb⟩⟩
/-- A disk that came behind w, in a later world. -/
structure At (B : Nat) (w : World) (b g cap : Nat) (D : Dk) (w' : World) : Prop where
  disk : IsDisk w' b g cap D
  below : Below B w w'
  bB : B ≤ b
  gB : B ≤ g
  le : B ≤ w.heap.size
theorem At.chg {B : Nat} {w w1 w2 : World} {b g cap : Nat} {D D' : Dk} (h : At B w b g cap D w1) (hd : IsDisk w2 b g cap D') (hc : Chg (fun k => k = b ∨ k = g) w1 w2) : At B w b g cap D' w2 :=
  ⟨hd, h.below.trans (hc.below (by have := h.below.size; have := h.le; omega) (fun k hk hs => by have := h.bB; have := h.gB; omega)), h.bB, h.gB, h.le⟩
theorem At.grow {B : Nat} {w w1 w2 : World} {b g cap : Nat} {D : Dk} (h : At B w b g cap D w1) (hb : Below w1.heap.size w1 w2) : At B w b g cap D w2 :=
  ⟨h.disk.below hb, h.below.trans (hb.mono (by have := h.below.size; have := h.le; omega)), h.bB, h.gB, h.le⟩
end Go.Proofs.YtamaefnlicloaaaDoor
