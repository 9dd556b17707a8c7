/- Many disks of the program's beside the document's: what a call leaves of all of them. -/
import Derived.Test.YtennhmnmoamleaaDDoes6
namespace Go.Proofs.Ytennhmnmoamleaa
set_option linter.unusedVariables false
open Go.RowKit
/-- No file has more writes than that. -/
def Dk.Many (D : Dk) (M : Nat) : Prop := ∀ f, f < D.l.length → (D.l.getD f Fl.zero).ws.length ≤ M
theorem many_set {l : List Fl} {M f : Nat} {x : Fl} (h : ∀ f, f < l.length → (l.getD f Fl.zero).ws.length ≤ M) (hx : x.ws.length ≤ M) : ∀ k, k < (l.set f x).length → ((l.set f x).getD k Fl.zero).ws.length ≤ M := fun k hk => by
  rw [List.length_set] at hk
  by_cases e : f = k
  · subst e; rw [getD_set_self _ _ _ _ hk]; exact hx
  · rw [getD_set_ne _ _ _ _ _ e]; exact h k hk
theorem many_died (D : Dk) (css : List (List Int)) (M : Nat) : (D.died css).Many M := fun f hf => by
  rw [length_died] at hf
  rw [died_getD D css f hf]
  exact Nat.zero_le _
/-- A disk's bounds, and its writes'. -/
structure Fine (D : Dk) (M : Nat) : Prop where
  ok : DOk D
  many : D.Many M
theorem Fine.up {D : Dk} {M M' : Nat} (h : Fine D M) (hm : M ≤ M') : Fine D M' := ⟨h.ok, fun f hf => Nat.le_trans (h.many f hf) hm⟩
theorem Fine.tick {D : Dk} {M : Nat} (h : Fine D M) : Fine D.tick M := ⟨h.ok.tick, h.many⟩
theorem Fine.died {D : Dk} {M : Nat} (h : Fine D M) (css : List (List Int)) : Fine (D.died css) M := ⟨h.ok.died css, many_died D css M⟩
theorem Fine.setf {D : Dk} {M f : Nat} {x : Fl} (h : Fine D M) (hx : (rd x).size ≤ 262144) (hm : x.ws.length ≤ M) (hM : M ≤ 1099511627776) : Fine (D.setf f x) M := ⟨h.ok.setf f x hx (by omega), many_set h.many hm⟩
theorem Fine.play {D : Dk} {M : Nat} (h : Fine D M) (hM : M < 1099511627776) (o : Opv) (hcm : ∀ i, (o.ch.getD i []).length ≤ 1048576) (hn : o.n ≤ 9223372036854775807) : Fine (D.play o) (M + 1) := by
  unfold Dk.play
  split
  · unfold Dk.writeX
    split
    · exact h.up (by omega)
    · split
      · exact h.up (by omega)
      · split
        · exact h.up (by omega)
        · rename_i ho hs
          obtain ⟨n, hf, hn⟩ := out_cases (show D.out o.f = false by simpa using ho)
          rw [hf, Int.toNat_natCast] at hs ⊢
          have hw : (D.l.getD n Fl.zero).ws.length ≤ M := h.many n hn
          have hp : Fine (D.put n o.s) (M + 1) := ⟨h.ok.put n o.s (by omega) (by omega), many_set (fun f hf => Nat.le_trans (h.many f hf) (by omega)) (by rw [List.length_append, List.length_singleton]; omega)⟩
          unfold Dk.write
          split
          · exact hp.tick.died _
          · exact hp.tick
  · split
    · unfold Dk.syncX
      split
      · exact h.up (by omega)
      · split
        · exact h.up (by omega)
        · rename_i ho
          obtain ⟨n, hf, hn⟩ := out_cases (show D.out o.f = false by simpa using ho)
          rw [hf, Int.toNat_natCast]
          unfold Dk.sync
          split
          · exact (h.tick.died _).up (by omega)
          · refine (h.tick.setf ?_ (Nat.zero_le _) (by omega)).up (by omega)
            rw [rd_safe]; exact h.ok.size n hn
    · split
      · unfold Dk.cutX
        split
        · exact h.up (by omega)
        · split
          · exact h.up (by omega)
          · split
            · exact h.up (by omega)
            · rename_i ho hc
              obtain ⟨n, hf, hn⟩ := out_cases (show D.out o.f = false by simpa using ho)
              rw [hf, Int.toNat_natCast] at hc ⊢
              unfold Dk.cut
              split
              · exact (h.tick.died _).up (by omega)
              · refine (h.tick.setf ?_ ?_ (by omega)).up (by omega)
                · have h1 := h.ok.size n hn
                  rw [size_rd] at h1 ⊢
                  dsimp only
                  rw [ByteArray.size_extract]
                  omega
                · exact h.many n hn
      · split
        · unfold Dk.armX
          split
          · exact h.up (by omega)
          · split
            · exact h.up (by omega)
            · exact ⟨⟨h.ok.n, h.ok.pos, h.ok.size, h.ok.many, by show o.n.toNat ≤ _; omega, fun i => by have := hcm i; show (o.ch.getD i []).length ≤ _; omega⟩, fun f hf => Nat.le_trans (h.many f hf) (by omega)⟩
        · split
          · unfold Dk.crashX
            split
            · exact h.up (by omega)
            · exact (h.died _).up (by omega)
          · split
            · exact ⟨⟨h.ok.n, h.ok.pos, h.ok.size, h.ok.many, Nat.zero_le _, h.ok.chl⟩, fun f hf => Nat.le_trans (h.many f hf) (by omega)⟩
            · exact h.up (by omega)
section
variable {B : Nat} {w0 w w' : World} {b g r b' g' r' : Nat} {D D' : Dk}
theorem blk_ne {w : World} {k j : Nat} {cs cs' : Array Value} {T T' : TypeId} {fr fr' : Nat × Nat} (h : w.heap[k]? = some (.cells cs T fr)) (h' : w.heap[j]? = some (.cells cs' T' fr')) (hT : T ≠ T') : k ≠ j := fun e => by
  subst e
  rw [h] at h'
  injection h' with h'
  injection h' with _ e _
  exact hT e
/-- The blocks of a duo, by their types. -/
theorem Duo.blks (h : Duo B w0 w b g r D) : (∃ cs, w.heap[b]? = some (.cells cs 45 (0, 0))) ∧ (∃ cs, w.heap[g]? = some (.cells cs 47 (0, 0))) ∧ (∃ cs, w.heap[r]? = some (.cells cs 50 (0, 0))) := by
  obtain ⟨cap, h1⟩ := h.p
  obtain ⟨g', cap', h2⟩ := h.q
  obtain ⟨_, k1, _⟩ := h1.blk
  obtain ⟨_, k2, _⟩ := h1.fs.blk
  obtain ⟨_, _, k3, _⟩ := h2.blk
  exact ⟨⟨_, k1⟩, ⟨_, k2⟩, ⟨_, k3⟩⟩
/-- A duo beside another one that has turned. -/
theorem Duo.beside (h : Duo B w0 w b g r D) (k : Duo B w0 w b' g' r' D') (hc : Chg (Of b' g' r') w w') (hn : b ≠ b' ∧ g ≠ g' ∧ r ≠ r') : Duo B w0 w' b g r D := by
  obtain ⟨⟨_, h1⟩, ⟨_, h2⟩, ⟨_, h3⟩⟩ := h.blks
  obtain ⟨⟨_, k1⟩, ⟨_, k2⟩, ⟨_, k3⟩⟩ := k.blks
  have kb := k.bB
  have kg := k.gB
  have kr := k.lt.2.2.2
  refine h.keep hc ?_ ?_ ?_ (fun j hj hS => by rcases hS with e | e | e <;> omega) k.muts
  · rintro (e | e | e)
    · exact hn.1 e
    · exact blk_ne h1 k2 (by decide) e
    · exact blk_ne h1 k3 (by decide) e
  · rintro (e | e | e)
    · exact blk_ne h2 k1 (by decide) e
    · exact hn.2.1 e
    · exact blk_ne h2 k3 (by decide) e
  · rintro (e | e | e)
    · exact blk_ne h3 k1 (by decide) e
    · exact blk_ne h3 k2 (by decide) e
    · exact hn.2.2 e
/-- A duo beside a row of pointers that has grown. -/
theorem Duo.pastRow {X : Nat} {cs : Array Value} {T : TypeId} (h : Duo B w0 w b g r D) (hX : w.heap[X]? = some (.cells cs T (0, 0))) (hT : T = 24 ∨ T = 28) (hB : B ≤ X) (hc : Chg (fun k => k = X) w w') : Duo B w0 w' b g r D := by
  obtain ⟨⟨_, h1⟩, ⟨_, h2⟩, ⟨_, h3⟩⟩ := h.blks
  refine h.keep hc (blk_ne h1 hX ?_) (blk_ne h2 hX ?_) (blk_ne h3 hX ?_) (fun j hj e => by omega) (fun k _ e cur T' fr hh => ?_)
  · rcases hT with rfl | rfl <;> decide
  · rcases hT with rfl | rfl <;> decide
  · rcases hT with rfl | rfl <;> decide
  · subst e
    rw [hX] at hh
    injection hh with hh
    injection hh with _ e _
    subst e
    unfold Fix
    rcases hT with rfl | rfl <;> decide
theorem IsDisk.pastRow {cap X : Nat} {cs : Array Value} {T : TypeId} (h : IsDisk w b g cap D) (hX : w.heap[X]? = some (.cells cs T (0, 0))) (hT : T = 24 ∨ T = 28) (hc : Chg (fun k => k = X) w w') : IsDisk w' b g cap D := by
  obtain ⟨_, h1, _⟩ := h.blk
  obtain ⟨_, h2, _⟩ := h.fs.blk
  refine h.keep hc (blk_ne h1 hX ?_) (blk_ne h2 hX ?_) (fun k _ e cur T' fr hh => ?_)
  · rcases hT with rfl | rfl <;> decide
  · rcases hT with rfl | rfl <;> decide
  · subst e
    rw [hX] at hh
    injection hh with hh
    injection hh with _ e _
    subst e
    unfold Fix
    rcases hT with rfl | rfl <;> decide
theorem IsR.pastRow {cap X : Nat} {cs : Array Value} {T : TypeId} (h : IsR B w0 w b g cap D) (hX : w.heap[X]? = some (.cells cs T (0, 0))) (hT : T = 24 ∨ T = 28) (hB : B ≤ X) (hc : Chg (fun k => k = X) w w') : IsR B w0 w' b g cap D := by
  obtain ⟨_, _, h1, _⟩ := h.blk
  refine h.keep hc (blk_ne h1 hX ?_) (fun k hk e => by omega) (fun k _ e cur T' fr hh => ?_)
  · rcases hT with rfl | rfl <;> decide
  · subst e
    rw [hX] at hh
    injection hh with hh
    injection hh with _ e _
    subst e
    unfold Fix
    rcases hT with rfl | rfl <;> decide
/-- A row of pointers. -/
def Ptrs (w : World) (B : Nat) (T : TypeId) (v : Value) (n : Nat) (px : Nat → Nat) : Prop := w.ownsRow B T 1 v n ((List.range n).map fun k => Value.pointer (some ⟨px k, 0, none⟩))
theorem Ptrs.keep {T : TypeId} {v : Value} {n : Nat} {px : Nat → Nat} {S : Nat → Prop} (h : Ptrs w B T v n px) (hc : Chg S w w') (hS : ∀ k, B ≤ k → S k → ∀ cur fr, w.heap[k]? ≠ some (.cells cur T fr)) : Ptrs w' B T v n px := row_keep h hc (fun k _ hb hk => hS k hb hk)
theorem Ptrs.grow {T : TypeId} {v : Value} {n : Nat} {px : Nat → Nat} (h : Ptrs w B T v n px) (hb : Below w.heap.size w w') : Ptrs w' B T v n px := h.keep (Chg.of_below (fun _ => False) hb) (fun _ _ hk => hk.elim)
theorem Ptrs.form {T : TypeId} {v : Value} {n : Nat} {px : Nat → Nat} (h : Ptrs w B T v n px) (hn : 0 < n) : ∃ X c cs, v = .slice (some ⟨X, 0, none⟩) n c ∧ B ≤ X ∧ w.heap[X]? = some (.cells cs T (0, 0)) ∧ n ≤ c ∧ ∀ k, k < n → w.cell? ⟨X, k, none⟩ = some (.pointer (some ⟨px k, 0, none⟩)) := by
  rcases h.2 with ⟨_, hn⟩ | ⟨X, c, cur, hv, hb, hg, h3, h4, h5, h6⟩
  · omega
  · subst hv
    refine ⟨X, c, cur, rfl, hb, hg, h3, fun k hk => ?_⟩
    have := World.ownsRow.cellAt (w := w) (base := B) (e := T) (size := 1) (g := X) (cap := c) (n := n) (xs := _) h k (by omega)
    rw [this, List.getElem?_map, List.getElem?_range hk]
    rfl
/-- The program's disks and the document's. -/
structure Core (B : Nat) (w0 w : World) (n i : Nat) (bx gx rx : Nat → Nat) (D : Nat → Dk) : Prop where
  duo : ∀ k, k < n → Duo B w0 w (bx k) (gx k) (rx k) (D k)
  fine : ∀ k, k < n → Fine (D k) i
  ne : ∀ j k, j < n → k < n → j ≠ k → bx j ≠ bx k ∧ gx j ≠ gx k ∧ rx j ≠ rx k
  below : Below B w0 w
  le : B = w0.heap.size
  pos : 0 < n
/-- .. and the rows of pointers to them. -/
structure Herd (B : Nat) (w0 w : World) (n i : Nat) (bx gx rx : Nat → Nat) (D : Nat → Dk) (vx vy : Value) : Prop where
  core : Core B w0 w n i bx gx rx D
  xs : Ptrs w B 24 vx n bx
  ys : Ptrs w B 28 vy n rx
variable {n i : Nat} {bx gx rx : Nat → Nat} {Ds : Nat → Dk} {vx vy : Value}
theorem Core.grow (h : Core B w0 w n i bx gx rx Ds) (hb : Below w.heap.size w w') : Core B w0 w' n i bx gx rx Ds :=
  ⟨fun k hk => (h.duo k hk).grow hb, h.fine, h.ne, h.below.trans (hb.mono (by have := h.below.size; have := h.le; omega)), h.le, h.pos⟩
theorem Herd.grow (h : Herd B w0 w n i bx gx rx Ds vx vy) (hb : Below w.heap.size w w') : Herd B w0 w' n i bx gx rx Ds vx vy := ⟨h.core.grow hb, h.xs.grow hb, h.ys.grow hb⟩
/-- A row of pointers has grown. -/
theorem Core.past (h : Core B w0 w n i bx gx rx Ds) {X : Nat} {cs : Array Value} {T : TypeId} (hX : w.heap[X]? = some (.cells cs T (0, 0))) (hT : T = 24 ∨ T = 28) (hB : B ≤ X) (hc : Chg (fun k => k = X) w w') : Core B w0 w' n i bx gx rx Ds :=
  ⟨fun k hk => (h.duo k hk).pastRow hX hT hB hc, h.fine, h.ne, h.below.trans (hc.below (by have := h.below.size; have := h.le; omega) (fun k hk e => by omega)), h.le, h.pos⟩
/-- One of them has turned. -/
theorem Herd.turn (h : Herd B w0 w n i bx gx rx Ds vx vy) {j : Nat} (hj : j < n) (hd : Duo B w0 w' (bx j) (gx j) (rx j) D) (hc : Chg (Of (bx j) (gx j) (rx j)) w w') (hf : Fine D (i + 1)) :
    Herd B w0 w' n (i + 1) bx gx rx (fun k => if k = j then D else Ds k) vx vy := by
  have hdj := h.core.duo j hj
  obtain ⟨⟨_, h1⟩, ⟨_, h2⟩, ⟨_, h3⟩⟩ := hdj.blks
  have kb := hdj.bB
  have kg := hdj.gB
  have kr := hdj.lt.2.2.2
  have hty : ∀ T, (T = 24 ∨ T = 28) → ∀ k, B ≤ k → Of (bx j) (gx j) (rx j) k → ∀ cur fr, w.heap[k]? ≠ some (.cells cur T fr) := fun T hT k _ hS cur fr hh => by
    rcases hS with rfl | rfl | rfl
    · exact blk_ne h1 hh (by rcases hT with rfl | rfl <;> decide) rfl
    · exact blk_ne h2 hh (by rcases hT with rfl | rfl <;> decide) rfl
    · exact blk_ne h3 hh (by rcases hT with rfl | rfl <;> decide) rfl
  refine ⟨⟨fun k hk => ?_, fun k hk => ?_, h.core.ne, h.core.below.trans (hc.below (by have := h.core.below.size; have := h.core.le; omega) (fun k hk hS => by rcases hS with e | e | e <;> omega)), h.core.le, h.core.pos⟩, h.xs.keep hc (hty _ (.inl rfl)), h.ys.keep hc (hty _ (.inr rfl))⟩
  · by_cases e : k = j
    · subst e; rw [if_pos rfl]; exact hd
    · rw [if_neg e]; exact (h.core.duo k hk).beside hdj hc (h.core.ne k j hk hj e)
  · by_cases e : k = j
    · subst e; rw [if_pos rfl]; exact hf
    · rw [if_neg e]; exact (h.core.fine k hk).up (by omega)
/-- A clone comes. -/
theorem Core.snoc {wo : World} (h : Core B w0 w n i bx gx rx Ds) (hlt : ∀ k, k < n → bx k < wo.heap.size ∧ gx k < wo.heap.size ∧ rx k < wo.heap.size) (hd : Duo B w0 w b g r D) (hn : wo.heap.size ≤ b ∧ wo.heap.size ≤ g ∧ wo.heap.size ≤ r) (hf : Fine D i) :
    Core B w0 w (n + 1) i (fun k => if k = n then b else bx k) (fun k => if k = n then g else gx k) (fun k => if k = n then r else rx k) (fun k => if k = n then D else Ds k) := by
  refine ⟨fun k hk => ?_, fun k hk => ?_, fun j k hj hk hne => ?_, h.below, h.le, by omega⟩
  · by_cases e : k = n
    · simp only [if_pos e]; exact hd
    · simp only [if_neg e]; exact h.duo k (by omega)
  · by_cases e : k = n
    · simp only [if_pos e]; exact hf
    · simp only [if_neg e]; exact h.fine k (by omega)
  · by_cases e : j = n
    · have e2 : ¬ k = n := by omega
      have := hlt k (by omega)
      simp only [if_pos e, if_neg e2]; omega
    · by_cases e2 : k = n
      · have := hlt j (by omega)
        simp only [if_neg e, if_pos e2]; omega
      · simp only [if_neg e, if_neg e2]; exact h.ne j k (by omega) (by omega) hne
theorem range_snoc (n : Nat) (px : Nat → Nat) (x : Nat) : (List.range (n + 1)).map (fun k => Value.pointer (some ⟨if k = n then x else px k, 0, none⟩)) = (List.range n).map (fun k => Value.pointer (some ⟨px k, 0, none⟩)) ++ [.pointer (some ⟨x, 0, none⟩)] := by
  rw [List.range_succ, List.map_append]
  congr 1
  · refine List.map_congr_left fun k hk => ?_
    have := List.mem_range.1 hk
    rw [if_neg (by omega)]
  · simp
theorem Ptrs.snoc {T : TypeId} {v : Value} {px : Nat → Nat} {x : Nat} (h : w.ownsRow B T 1 v (n + 1) ((List.range n).map (fun k => Value.pointer (some ⟨px k, 0, none⟩)) ++ [.pointer (some ⟨x, 0, none⟩)])) : Ptrs w B T v (n + 1) (fun k => if k = n then x else px k) := by
  unfold Ptrs
  rw [range_snoc]
  exact h
end
end Go.Proofs.Ytennhmnmoamleaa
