/- Slices of strings that came in, the bytes of strings one behind another, and append of a string's bytes to bytes of the call's own. No function of the program in sight. -/
import Derived.Test.YtamaefnlicloaaaDoorBytes
import Derived.Lib.AppendStr
namespace Go.Proofs.YtamaefnlicloaaaDoor
open Go.RowKit

/-- The bytes of strings, one behind another. -/
def cat (ss : List ByteArray) : List Nat := ss.flatMap bs
theorem cat_nil : cat [] = [] := rfl
theorem cat_cons (s : ByteArray) (ss : List ByteArray) : cat (s :: ss) = bs s ++ cat ss := by simp [cat]
theorem cat_append (a b : List ByteArray) : cat (a ++ b) = cat a ++ cat b := by simp [cat]
theorem cat_lt (ss : List ByteArray) : ∀ c ∈ cat ss, c < 256 := by
  intro c hc
  obtain ⟨s, _, h⟩ := List.mem_flatMap.1 hc
  exact bs_lt s c h
theorem take_succ_getD {α : Type} (l : List α) (i : Nat) (d : α) (h : i < l.length) : l.take (i + 1) = l.take i ++ [l.getD i d] := by
  rw [List.take_succ_eq_append_getElem h]
  simp [h]
theorem cat_take_succ (ss : List ByteArray) (i : Nat) (h : i < ss.length) : cat (ss.take (i + 1)) = cat (ss.take i) ++ bs (ss.getD i ByteArray.empty) := by
  rw [take_succ_getD ss i ByteArray.empty h, cat_append]
  simp [cat]
theorem length_cat_take (ss : List ByteArray) (i : Nat) : (cat (ss.take i)).length ≤ (cat ss).length := by
  have h : cat ss = cat (ss.take i) ++ cat (ss.drop i) := by rw [← cat_append, List.take_append_drop]
  rw [h, List.length_append]; omega
theorem size_getD_le (ss : List ByteArray) (i : Nat) (h : i < ss.length) : (cat (ss.take i)).length + (ss.getD i ByteArray.empty).size ≤ (cat ss).length := by
  have h1 := length_cat_take ss (i + 1)
  rw [cat_take_succ ss i h, List.length_append, length_bs] at h1
  exact h1

/-- The value of a slice of strings: its strings are ss. -/
def Strs (w : World) (v : Value) (ss : List ByteArray) : Prop :=
  ∃ p cap, v = .slice p ss.length cap ∧ ∀ i, i < ss.length → ∃ b off, p = some ⟨b, off, none⟩ ∧ w.cell? ⟨b, off + i, none⟩ = some (.string (ss.getD i ByteArray.empty))
theorem Strs.below {w w' : World} {v : Value} {ss : List ByteArray} (h : Strs w v ss) (hb : Below w.heap.size w w') : Strs w' v ss := by
  obtain ⟨p, cap, rfl, hc⟩ := h
  refine ⟨p, cap, rfl, fun i hi => ?_⟩
  obtain ⟨b, off, rfl, hcell⟩ := hc i hi
  exact ⟨b, off, rfl, (hb.cell (block_lt_of_cell hcell)).trans hcell⟩
attribute [irreducible] Strs
theorem Strs.form {w : World} {v : Value} {ss : List ByteArray} (h : Strs w v ss) :
    ∃ p cap, v = .slice p ss.length cap ∧ ∀ i, i < ss.length → ∃ b off, p = some ⟨b, off, none⟩ ∧ w.cell? ⟨b, off + i, none⟩ = some (.string (ss.getD i ByteArray.empty)) := by
  unfold Strs at h; exact h
theorem Strs.mk {w : World} {p : Option Addr} {cap : Nat} {ss : List ByteArray} (h : ∀ i, i < ss.length → ∃ b off, p = some ⟨b, off, none⟩ ∧ w.cell? ⟨b, off + i, none⟩ = some (.string (ss.getD i ByteArray.empty))) :
    Strs w (.slice p ss.length cap) ss := by
  unfold Strs; exact ⟨p, cap, rfl, h⟩

/-- The value of a slice of ints: its numbers are zs. -/
def Ints (w : World) (v : Value) (zs : List Int) : Prop :=
  ∃ p cap, v = .slice p zs.length cap ∧ ∀ i, i < zs.length → ∃ b off, p = some ⟨b, off, none⟩ ∧ w.cell? ⟨b, off + i, none⟩ = some (.int .i64 (zs.getD i 0))
theorem Ints.below {w w' : World} {v : Value} {zs : List Int} (h : Ints w v zs) (hb : Below w.heap.size w w') : Ints w' v zs := by
  obtain ⟨p, cap, rfl, hc⟩ := h
  refine ⟨p, cap, rfl, fun i hi => ?_⟩
  obtain ⟨b, off, rfl, hcell⟩ := hc i hi
  exact ⟨b, off, rfl, (hb.cell (block_lt_of_cell hcell)).trans hcell⟩
attribute [irreducible] Ints
theorem Ints.form {w : World} {v : Value} {zs : List Int} (h : Ints w v zs) :
    ∃ p cap, v = .slice p zs.length cap ∧ ∀ i, i < zs.length → ∃ b off, p = some ⟨b, off, none⟩ ∧ w.cell? ⟨b, off + i, none⟩ = some (.int .i64 (zs.getD i 0)) := by
  unfold Ints at h; exact h
theorem Ints.mk {w : World} {p : Option Addr} {cap : Nat} {zs : List Int} (h : ∀ i, i < zs.length → ∃ b off, p = some ⟨b, off, none⟩ ∧ w.cell? ⟨b, off + i, none⟩ = some (.int .i64 (zs.getD i 0))) :
    Ints w (.slice p zs.length cap) zs := by
  unfold Ints; exact ⟨p, cap, rfl, h⟩

/-- append(b, s...): a string's bytes, to bytes of the call's own; where the new slice lies. -/
theorem run_append_str {P : Program} (w : World) (base : Nat) (t u ty e : TypeId) (i : TypeInfo) (ht : P.underlying t = some (.slice e)) (hu : P.underlying u = some .string) (hi : P.info? e = some i) (hz : i.zero = some (.int .u8 0))
    (hsize : i.size = 1) (hby : i.bytes = 1) (v : Value) (l : List Nat) (hown : Owns w base e v l) (s : ByteArray) (hbytes : l.length + s.size ≤ 140737488355328) (hbase : base ≤ w.heap.size) :
    ∃ v' w', (Builtin.append_ #[t, u] ty #[v, .string s]).run P w = .ok v' w' ∧ Owns w' base e v' (l ++ bs s) ∧ w.grownBy w' v.ownBlock ∧ (v'.ownBlock = v.ownBlock ∨ v'.ownBlock = some w.heap.size) := by
  have hown0 : w.ownsRow base e 1 v l.length (nums .u8 l) := hown
  obtain ⟨v', w', hr, h2, h3, _⟩ := Lib.run_append_own_string (P := P) w base t u ty e i ht hu hi hz hsize hby v l.length (nums .u8 l) hown0 s (by unfold maxLen; omega) hbytes hbase
  have hcells : nums .u8 l ++ Lib.strCells s = nums .u8 (l ++ bs s) := by
    simp [nums, Lib.strCells, bs]
  refine ⟨v', w', hr, ?_, h3, ?_⟩
  · unfold Owns
    rw [List.length_append, length_bs, ← hcells]
    exact h2
  · rcases hown0.2 with ⟨rfl, hn⟩ | ⟨g, cap, cur, rfl, hbg, hg, hnc, hcm, hcs, htake⟩
    · by_cases hm : s.size = 0
      · have hf := Lib.run_firstCells_string (P := P) w 1 s
        rw [hm] at hf
        have hr2 : (Builtin.append_ #[t, u] ty #[.slice none 0 0, .string s]).run P w = .ok (.slice none 0 0) w := by
          simp [Builtin.append_, run_underlying ht, run_underlying hu, sizeOf, typeInfo, hi, hsize, Builtin.lenOf, hm, hf]
        rw [hr2] at hr
        injection hr with hr1 _
        exact .inl (by rw [← hr1])
      · have hr2 := run_append_nil_string (P := P) w t u ty e i (.int .u8 0) ht hu hi hz s (by omega) (by omega) (by rw [hby]; omega)
        rw [hr2] at hr
        injection hr with hr1 _
        exact .inr (by rw [← hr1]; rfl)
    · by_cases hroom : l.length + s.size ≤ cap
      · have hcs' : cur.size = cap := by simpa using hcs
        have hr2 := Lib.run_append_room_string (P := P) w t u ty e i ht hu hi hsize g l.length cap cur hg s hroom (by omega)
        rw [hr2] at hr
        injection hr with hr1 _
        exact .inl (by rw [← hr1]; rfl)
      · have holds : ∀ j x, (nums .u8 l)[j]? = some x → w.cell? ((⟨g, 0, none⟩ : Addr).add j) = some x := hown0.cells (g := g) rfl
        have hr2 := Lib.run_append_grow_string (P := P) w t u ty e i (.int .u8 0) ht hu hi hz ⟨g, 0, none⟩ l.length cap (nums .u8 l) (by rw [hsize, length_nums, Nat.mul_one]) holds s (by omega) (by omega) (by rw [hby]; exact growslice_fits (by omega) (by omega))
        rw [hr2] at hr
        injection hr with hr1 _
        exact .inr (by rw [← hr1]; rfl)
theorem wpList_append_str {P : Program} {ops : Array Oper} {rest : List Oper} {o : Oper} {a : Act} {w : World} {Q : Exit → Act → World → Prop} {base : Nat} {e : TypeId} {v : Value} {l : List Nat}
    (hgd : o.guard = none) (sl x : Operand) (t u : TypeId) (ho : o.op = .call { callee := .builtin .append, args := #[sl, x], argTypes := #[t, u] })
    (ht : P.underlying t = some (.slice e)) (hu : P.underlying u = some .string) (hi : (P.info? e).map (fun i => (i.zero, i.size, i.bytes)) = some (some (.int .u8 0), 1, 1))
    (hs : a.eval sl = v) (hown : Owns w base e v l) (s : ByteArray) (hx : a.eval x = .string s) (hbytes : l.length + s.size ≤ 140737488355328) (hbase : base ≤ w.heap.size)
    (h : ∀ v' w', Owns w' base e v' (l ++ bs s) → w.grownBy w' v.ownBlock → (v'.ownBlock = v.ownBlock ∨ v'.ownBlock = some w.heap.size) → wpList P ops Q rest (a.put o.dst v') w') : wpList P ops Q (o :: rest) a w := by
  obtain ⟨i0, hi0, hz0, hz1, hz2⟩ := info_parts hi
  refine wpList_plain hgd fun K hK => ?_
  obtain ⟨v', w', hr, h2, h3, h4⟩ := run_append_str (P := P) w base t u o.type e i0 ht hu hi0 hz0 hz1 hz2 v l hown s hbytes hbase
  unfold Oper.wp execOp
  simp only [ho, resolve, invoke, builtin, Sem.run_bind, Sem.run_pure, Result.andThen_ok, List.map_toArray, List.map_cons, List.map_nil, hs, hx, hr]
  exact hK _ _ (h v' w' h2 h3 h4)
theorem Owns.shape {w : World} {base : Nat} {e : TypeId} {v : Value} {l : List Nat} (h : Owns w base e v l) : ∃ p cap, v = .slice p l.length cap := by
  rcases h.2 with ⟨rfl, hn⟩ | ⟨g, cap, cur, rfl, _⟩
  · rw [hn]; exact ⟨none, 0, rfl⟩
  · exact ⟨_, cap, rfl⟩
theorem Owns.below {w w' : World} {base : Nat} {e : TypeId} {v : Value} {l : List Nat} (h : Owns w base e v l) (hb : Below w.heap.size w w') : Owns w' base e v l :=
  h.grown (row := none) ⟨hb.os, hb.tape, hb.output, hb.size, fun k hk _ => hb.block k hk⟩ (by cases hv : v.ownBlock <;> simp)
theorem run_owned_string {P : Program} (w : World) {base : Nat} {e : TypeId} {v : Value} {l : List Nat} (src dst : TypeId) (hs : P.underlying src = some (.slice e)) (he : P.underlying e = some (.int .u8)) (hd : P.underlying dst = some .string)
    (hown : Owns w base e v l) : (convert src dst v).run P w = .ok (.string (strOf l)) w := by
  rcases hown.2 with ⟨rfl, hn⟩ | ⟨g, cap, cur, rfl, hb, hg, hnc, _, hcs, htake⟩
  · obtain rfl : l = [] := List.eq_nil_of_length_eq_zero hn
    exact run_convert_bytes_nil (P := P) (w := w) src e hs he 0 0 dst hd
  · have hr := run_convert_bytes_arg (P := P) w src e hs he g 0 l.length cap (l.map Int.ofNat) (by simp) (fun i hi => by
      have h1 := World.ownsRow.cellAt (w := w) (base := base) (e := e) (size := 1) (g := g) (cap := cap) (n := l.length) (xs := nums .u8 l) hown i (by omega)
      rw [Nat.zero_add, h1]
      simp [nums, hi]) dst hd
    have e1 : strOfNums (l.map Int.ofNat) = strOf l := by simp [strOfNums, strOf]
    rw [e1] at hr
    exact hr
/-- string(b): bytes of the call's own. -/
theorem wpList_owned_string {P : Program} {ops : Array Oper} {rest : List Oper} {o : Oper} {a : Act} {w : World} {Q : Exit → Act → World → Prop} {base : Nat} {e : TypeId} {v : Value} {l : List Nat}
    (hgd : o.guard = none) (src dst : TypeId) (x : Operand) (ho : o.op = .convert src dst x) (hs : P.underlying src = some (.slice e)) (he : P.underlying e = some (.int .u8)) (hd : P.underlying dst = some .string)
    (hx : a.eval x = v) (hown : Owns w base e v l) (h : wpList P ops Q rest (a.put o.dst (.string (strOf l))) w) : wpList P ops Q (o :: rest) a w := by
  rcases hown.2 with ⟨rfl, hn⟩ | ⟨g, cap, cur, rfl, hb, hg, hnc, _, hcs, htake⟩
  · obtain rfl : l = [] := List.eq_nil_of_length_eq_zero hn
    refine wpList_run hgd (.string (strOf [])) w ?_ h
    have hr := run_convert_bytes_nil (P := P) (w := w) src e hs he 0 0 dst hd
    unfold execOp
    simp only [ho, hx, Sem.run_bind, hr, Result.andThen_ok, Sem.run_pure]
    rfl
  · refine wpList_bytes_string hgd src dst x ho hs he hd g 0 l.length cap hx l rfl (fun j hj => ?_) h
    rw [Nat.zero_add]
    have h1 := World.ownsRow.cellAt (w := w) (base := base) (e := e) (size := 1) (g := g) (cap := cap) (n := l.length) (xs := nums .u8 l) hown j (by omega)
    rw [h1]
    simp [nums, hj]
end Go.Proofs.YtamaefnlicloaaaDoor
