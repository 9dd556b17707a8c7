/- A slice of bytes that the call itself made: what it holds, what append and string() make of it. -/
import Derived.Test.YtamaefnlicloaaaDoorMem
import Derived.Maps.AppendAt
import Derived.Laws.BytesArg
namespace Go.Proofs.YtamaefnlicloaaaDoor
open Go.RowKit
/-- v holds the bytes l, in a block of its own from base on. -/
def Owns (w : World) (base : Nat) (e : TypeId) (v : Value) (l : List Nat) : Prop := w.ownsRow base e 1 v l.length (nums .u8 l)
theorem Owns.nil (w : World) (base : Nat) (e : TypeId) : Owns w base e (.slice none 0 0) [] := World.ownsRow_nil w base e 1
theorem length_nums (k : IntKind) (l : List Nat) : (nums k l).length = l.length := by simp [nums]
section
variable {P : Program} {ops : Array Oper} {rest : List Oper} {o : Oper} {a : Act} {w w' : World} {Q : Exit → Act → World → Prop} {base : Nat} {e : TypeId} {v : Value} {l : List Nat}
theorem Owns.grown {row : Option Nat} (h : Owns w base e v l) (hg : w.grownBy w' row) (hne : v.ownBlock = none ∨ v.ownBlock ≠ row) : Owns w' base e v l := World.ownsRow.kept h hg hne
theorem Grow.grown (t : Grow w) (row : Option Nat) : w.grownBy t.val row := ⟨t.below.os, t.below.tape, t.below.output, t.below.size, fun k hk _ => t.below.block k hk⟩
theorem Owns.grow (h : Owns w base e v l) (t : Grow w) : Owns t.val base e v l := h.grown (t.grown none) (by cases hv : v.ownBlock <;> simp)
theorem Owns.alloc (h : Owns w base e v l) (ob : Obj) : Owns (w.alloc ob) base e v l := World.ownsRow.alloc h ob
theorem Owns.block (h : Owns w base e v l) {k : Nat} (hk : v.ownBlock = some k) : base ≤ k ∧ k < w.heap.size := World.ownsRow.lt h k hk
theorem Owns.lit (w : World) (l : List Nat) (c : Array Value) (hb : base ≤ w.heap.size) (hc : c = (nums .u8 l).toArray) (hm : l.length ≤ maxLen) :
    Owns (w.alloc (.cells c e)) base e (.slice (some ⟨w.heap.size, 0, none⟩) l.length l.length) l := by
  subst hc
  refine ⟨by simp [nums], .inr ⟨w.heap.size, l.length, _, rfl, hb, heap_alloc_new w _, Nat.le_refl _, hm, by simp [nums], ?_⟩⟩
  simp only [nums, Nat.mul_one]
  exact List.take_of_length_le (by simp)
/-- What it is, and where it lies. -/
theorem Owns.form (h : Owns w base e v l) (h0 : 0 < l.length) : ∃ g cap, v = .slice (some ⟨g, 0, none⟩) l.length cap ∧ base ≤ g ∧ l.length ≤ cap ∧ ∀ j, j < l.length → w.cell? ⟨g, j, none⟩ = some (.int .u8 (l.getD j 0 : Nat)) := by
  rcases h.2 with ⟨_, hn⟩ | ⟨g, cap, cur, rfl, hb, hg, hnc, _, hcs, htake⟩
  · omega
  · refine ⟨g, cap, rfl, hb, hnc, fun j hj => ?_⟩
    have h1 := World.ownsRow.cellAt (w := w) (base := base) (e := e) (size := 1) (g := g) (cap := cap) (n := l.length) (xs := nums .u8 l) h j (by omega)
    rw [h1]
    simp [nums, hj]
/-- append of bytes, to bytes. -/
theorem wpList_append_bytes (hgd : o.guard = none) (s x : Operand) (t : TypeId) (ho : o.op = .call { callee := .builtin .append, args := #[s, x], argTypes := #[t, t] })
    (ht : P.underlying t = some (.slice e)) (hi : (P.info? e).map (fun i => (i.zero, i.size, i.bytes)) = some (some (.int .u8 0), 1, 1))
    (hs : a.eval s = v) (hown : Owns w base e v l) (ad : Addr) (m c : Nat) (news : List Nat) (hx : a.eval x = .slice (some ad) m c) (hm : news.length = m)
    (hnews : ∀ j, j < m → w.cell? (ad.add j) = some (.int .u8 (news.getD j 0 : Nat))) (hsz : l.length + m ≤ 140737488355328) (hbase : base ≤ w.heap.size)
    (h : ∀ v' w', Owns w' base e v' (l ++ news) → w.grownBy w' v.ownBlock → (v'.ownBlock = v.ownBlock ∨ v'.ownBlock = some w.heap.size) → wpList P ops Q rest (a.put o.dst v') w') : wpList P ops Q (o :: rest) a w := by
  obtain ⟨i0, hi0, hz0, hz1, hz2⟩ := info_parts hi
  refine wpList_append_own_at w hgd s x t ho base e i0 (.int .u8 0) 1 1 ht hi0 hz0 hz1 hz2 rfl (by decide) v l.length (nums .u8 l) hs hown ad m c (nums .u8 news) hx (by rw [length_nums]; omega) ?_ (oneCell_nums .u8 news) (by unfold maxLen; omega) (by omega) hbase ?_
  · intro j u hu
    have hj : j < news.length := by rw [← length_nums .u8 news]; exact (List.getElem?_eq_some_iff.1 hu).1
    rw [hnews j (by omega), ← hu]
    simp [nums, hj]
  · intro v' w' h1 h2 _ h4
    refine h v' w' ?_ h2 h4
    unfold Owns
    rw [List.length_append, hm]
    have : nums .u8 (l ++ news) = nums .u8 l ++ nums .u8 news := by simp [nums]
    rw [this]; exact h1
/-- The string of these bytes. -/
def strOf (l : List Nat) : ByteArray := ⟨(l.map UInt8.ofNat).toArray⟩
/-- The bytes of a string. -/
def bs (s : ByteArray) : List Nat := s.data.toList.map (·.toNat)
theorem length_bs (s : ByteArray) : (bs s).length = s.size := by simp only [bs, List.length_map, Array.length_toList]; rfl
theorem size_strOf (l : List Nat) : (strOf l).size = l.length := by show (l.map UInt8.ofNat).toArray.size = l.length; simp
theorem bs_lt (s : ByteArray) : ∀ c ∈ bs s, c < 256 := by
  intro c hc
  obtain ⟨u, _, rfl⟩ := List.mem_map.1 hc
  exact u.toNat_lt
theorem bs_strOf (l : List Nat) (h : ∀ c ∈ l, c < 256) : bs (strOf l) = l := by
  simp only [bs, strOf, List.map_map]
  conv => rhs; rw [← List.map_id l]
  refine List.map_congr_left fun c hc => ?_
  show (UInt8.ofNat c).toNat = c
  rw [UInt8.toNat_ofNat']
  exact Nat.mod_eq_of_lt (h c hc)
theorem strOf_bs (s : ByteArray) : strOf (bs s) = s := by
  obtain ⟨⟨l⟩⟩ := s
  simp [strOf, bs, Function.comp_def]
theorem bs_inj {s t : ByteArray} (h : bs s = bs t) : s = t := by rw [← strOf_bs s, ← strOf_bs t, h]
theorem bs_extract (s : ByteArray) (i j : Nat) : bs (s.extract i j) = ((bs s).drop i).take (j - i) := by
  simp only [bs, ByteArray.data_extract, Array.toList_extract, List.extract_eq_take_drop, List.map_take, List.map_drop]
theorem bs_from (s : ByteArray) (i : Nat) : bs (s.extract i s.size) = (bs s).drop i := by
  rw [bs_extract, List.take_of_length_le (by simp [length_bs])]
/-- string(b): cells that hold the bytes l. -/
theorem wpList_bytes_string (hgd : o.guard = none) (src dst : TypeId) (x : Operand) (ho : o.op = .convert src dst x) (hs : P.underlying src = some (.slice e)) (he : P.underlying e = some (.int .u8)) (hd : P.underlying dst = some .string)
    (b off len cap : Nat) (hx : a.eval x = .slice (some ⟨b, off, none⟩) len cap) (l : List Nat) (hlen : l.length = len) (hcell : ∀ j, j < len → w.cell? ⟨b, off + j, none⟩ = some (.int .u8 (l.getD j 0 : Nat)))
    (h : wpList P ops Q rest (a.put o.dst (.string (strOf l))) w) : wpList P ops Q (o :: rest) a w := by
  refine wpList_run hgd (.string (strOf l)) w ?_ h
  have hr := run_convert_bytes_arg (P := P) w src e hs he b off len cap (l.map Int.ofNat) (by simp [hlen]) (fun i hi => by
    rw [hcell i hi]
    have : i < l.length := by omega
    simp [this]) dst hd
  have e1 : strOfNums (l.map Int.ofNat) = strOf l := by simp [strOfNums, strOf]
  rw [e1] at hr
  unfold execOp
  simp only [ho, hx, Sem.run_bind, hr, Result.andThen_ok, Sem.run_pure]
end
end Go.Proofs.YtamaefnlicloaaaDoor
