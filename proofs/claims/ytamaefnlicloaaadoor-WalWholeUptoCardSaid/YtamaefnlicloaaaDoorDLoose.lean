/- copy of a string's bytes into bytes that the call made. No function of the program in sight. -/
import Derived.Test.YtamaefnlicloaaaDoorLoose
import Derived.Test.YtamaefnlicloaaaDoorDPlain
import Derived.Lib.LazyBuf
import Derived.Lib.BufferWrite
namespace Go.Proofs.YtamaefnlicloaaaDoor
open Go.RowKit
/-- l with the bytes of t from place o on. -/
def overAt (l : List Nat) (o : Nat) (t : List Nat) : List Nat := l.take o ++ t ++ l.drop (o + t.length)
theorem length_overAt (l : List Nat) (o : Nat) (t : List Nat) (h : o + t.length ≤ l.length) : (overAt l o t).length = l.length := by
  unfold overAt
  rw [List.length_append, List.length_append, List.length_take, List.length_drop]
  omega
theorem overAt_nil (l : List Nat) (o : Nat) : overAt l o [] = l := by unfold overAt; simp
theorem overAt_getD (l : List Nat) (o : Nat) (t : List Nat) (h : o + t.length ≤ l.length) (j : Nat) : (overAt l o t).getD j 0 = if o ≤ j ∧ j < o + t.length then t.getD (j - o) 0 else l.getD j 0 := by
  unfold overAt
  have hlo : (l.take o).length = o := by rw [List.length_take]; omega
  by_cases h1 : j < o
  · rw [if_neg (by omega), List.append_assoc, getD_apl _ _ _ (by omega), getD_take _ _ _ h1]
  · by_cases h2 : j < o + t.length
    · rw [if_pos (by omega), List.append_assoc, getD_apr _ _ _ (by omega), hlo, getD_apl _ _ _ (by omega)]
    · rw [if_neg (by omega), getD_apr _ _ _ (by rw [List.length_append]; omega), List.length_append, hlo, List.getD_eq_getElem?_getD, List.getElem?_drop, List.getD_eq_getElem?_getD]
      congr 2
      omega
theorem LooseAt.copy {w : World} {base g cap : Nat} {l : List Nat} (h : LooseAt w base g cap l) (o : Nat) (t : ByteArray) (hfit : o + t.size ≤ l.length) :
    LooseAt (w.setCells g o (t.data.toList.map fun x => Value.int .u8 (x.toNat : Int))) base g cap (overAt l o (bs t)) := by
  have hgr := grownBy_setCells g (t.data.toList.map fun x => Value.int .u8 (x.toNat : Int)) o w
  have hl : (t.data.toList.map fun x => Value.int .u8 (x.toNat : Int)).length = t.size := by rw [List.length_map]; rfl
  have hlen := length_overAt l o (bs t) (by rw [length_bs]; exact hfit)
  have hn := h.n
  refine ⟨h.b, by rw [hlen]; exact hn, fun j hj => ?_, fun j hj => World.isSome_setCells _ _ _ _ _ (h.room j hj), fun j hj => by rw [World.frozen?_setCells]; exact h.free j hj, Nat.lt_of_lt_of_le h.lt hgr.size⟩
  rw [hlen] at hj
  rw [overAt_getD _ _ _ (by rw [length_bs]; exact hfit), length_bs]
  by_cases h1 : o ≤ j ∧ j < o + t.size
  · rw [if_pos h1]
    obtain ⟨m, rfl⟩ : ∃ m, j = o + m := ⟨j - o, by omega⟩
    rw [World.cell?_setCells_in g _ o w (fun i hi => by rw [hl] at hi; exact h.room _ (by omega)) m (by rw [hl]; omega), show o + m - o = m by omega]
    have hm : m < t.data.toList.length := by have : t.data.toList.length = t.size := rfl; omega
    rw [List.getElem_map, bs, List.getD_eq_getElem?_getD, List.getElem?_map, List.getElem?_eq_getElem hm]
    rfl
  · rw [if_neg h1, World.cell?_setCells_out g _ o w ⟨g, j, none⟩ (fun _ _ => by rw [hl]; show j < o ∨ o + t.size ≤ j; omega)]
    exact h.cells j hj
theorem wpList_copy_loose {P : Program} {ops : Array Oper} {rest : List Oper} {o : Oper} {a : Act} {w : World} {Q : Exit → Act → World → Prop} {base g cap : Nat} {l : List Nat}
    (hgd : o.guard = none) (d s : Operand) (dT sT : TypeId) (ho : o.op = .call { callee := .builtin .copy, args := #[d, s], argTypes := #[dT, sT] }) (hu : P.underlying dT = some (.slice 5)) (hz : (P.info? 5).map (·.size) = some 1)
    (A : Option Addr) (dLen dCap : Nat) (t : ByteArray) (hd : a.eval d = .slice A dLen dCap) (hs : a.eval s = .string t) (hl : LooseAt w base g cap l) (off : Nat) (hA : 0 < t.size → A = some ⟨g, off, none⟩) (hle : t.size ≤ dLen) (hfit : off + t.size ≤ l.length)
    (h : ∀ w', LooseAt w' base g cap (overAt l off (bs t)) → w.grownBy w' (some g) → wpList P ops Q rest (a.put o.dst (goInt t.size)) w') : wpList P ops Q (o :: rest) a w := by
  have hsz : ∀ w, (Go.sizeOf 5).run P w = .ok 1 w := fun w => by
    cases hq : P.info? 5 with
    | none => simp [hq] at hz
    | some i =>
      have : i.size = 1 := by simpa [hq] using hz
      simp [sizeOf, typeInfo, hq, this]
  by_cases h0 : t.size = 0
  · have hb : bs t = [] := List.eq_nil_of_length_eq_zero (by rw [length_bs]; exact h0)
    have hfin := h w (by rw [hb, overAt_nil]; exact hl) ⟨rfl, rfl, rfl, Nat.le_refl _, fun _ _ _ => rfl⟩
    refine wpList_run hgd _ w ?_ hfin
    unfold execOp
    simp only [ho, resolve, invoke, builtin, Sem.run_bind, Sem.run_pure, Result.andThen_ok, List.map_toArray, List.map_cons, List.map_nil, hd, hs, Lib.run_copy_empty_string (P := P) w dT sT o.type 5 A dLen dCap t hu (by rw [hz]; rfl) h0, h0]
    rfl
  · have hA' := hA (by omega)
    subst hA'
    have hn := hl.n
    refine wpList_run hgd _ _ ?_ (h _ (hl.copy off t hfit) (grownBy_setCells _ _ _ _))
    unfold execOp
    simp only [ho, resolve, invoke, builtin, Sem.run_bind, Sem.run_pure, Result.andThen_ok, List.map_toArray, List.map_cons, List.map_nil, hd, hs, run_copy_string (P := P) w dT sT o.type 5 g off dLen dCap t hu hsz hle (fun j hj => hl.room _ (by omega)) (fun j hj => hl.free _ (by omega))]
end Go.Proofs.YtamaefnlicloaaaDoor
