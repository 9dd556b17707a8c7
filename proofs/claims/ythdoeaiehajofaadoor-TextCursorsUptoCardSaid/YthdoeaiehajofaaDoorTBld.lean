/- strings.Builder: what it holds; WriteByte, WriteString, Write, String. -/
import Derived.Test.YthdoeaiehajofaaDoorTInts
import Derived.Test.YthdoeaiehajofaaDoorTAs
import Derived.Lib.Builder
import Derived.Lib.UnsafeStr
import Derived.WalkKit
import Derived.RegionTactic
import Derived.Laws.Externs
namespace Go.Proofs.YthdoeaiehajofaaDoor
set_option linter.unusedVariables false
set_option maxRecDepth 100000
open Go.RowKit
theorem add_block (a : Addr) (j : Nat) : (a.add j).block = a.block := by unfold Addr.add; split <;> rfl
theorem sizeBuilder : (Tryd.prog.info? 81).map (·.size) = some 2 := by kernel_rfl
theorem liesBuilder : liesAt Tryd.prog Tryd.prog.depth 81 (2 / Tryd.prog.cellsOf 81) 0 81 1 = true := by kernel_rfl
/-- A builder in a block of its own, with the bytes l. -/
structure BAt (w : World) (B b : Nat) (p v : Value) (l : List Nat) : Prop where
  le : B ≤ b
  blk : w.heap[b]? = some (.cells #[p, v] 81 (0, 0))
  own : Owns w B 5 v l
  ne : v.ownBlock ≠ some b
def Bld (w : World) (B b : Nat) (l : List Nat) : Prop := ∃ p v, (p = .pointer none ∨ p = .pointer (some ⟨b, 0, none⟩)) ∧ BAt w B b p v l
section
variable {w w' : World} {B b : Nat} {p v : Value} {l : List Nat}
theorem BAt.lt (h : BAt w B b p v l) : b < w.heap.size := (Array.getElem?_eq_some_iff.1 h.blk).1
theorem BAt.same (h : BAt w B b p v l) {row : Option Nat} (hg : w.grownBy w' row) (h1 : row ≠ some b) (h2 : v.ownBlock = none ∨ v.ownBlock ≠ row) : BAt w' B b p v l :=
  ⟨h.le, (hg.block b h.lt (fun e => h1 e.symm)).trans h.blk, h.own.grown hg h2, h.ne⟩
theorem grown_of_below {w w' : World} (hb : Below w.heap.size w w') : w.grownBy w' none := ⟨hb.os, hb.tape, hb.output, hb.size, fun k hk _ => hb.block k hk⟩
theorem BAt.below (h : BAt w B b p v l) (hb : Below w.heap.size w w') : BAt w' B b p v l := h.same (grown_of_below hb) (by simp) (by cases v.ownBlock <;> simp)
theorem BAt.c0 (h : BAt w B b p v l) : w.cell? ⟨b, 0, none⟩ = some p := by rw [cell_of_row w b 0 _ _ (0, 0) h.blk]; rfl
theorem BAt.c1 (h : BAt w B b p v l) : w.cell? ⟨b, 1, none⟩ = some v := by rw [cell_of_row w b 1 _ _ (0, 0) h.blk]; rfl
theorem BAt.free (h : BAt w B b p v l) (j : Nat) : w.frozen? ⟨b, j, none⟩ = false := frozen_of_row w b j _ _ h.blk
theorem BAt.shape (h : BAt w B b p v l) : w.shape? b = some (81, 2) := by simp [World.shape?, h.blk]
theorem Bld.below (h : Bld w B b l) (hb : Below w.heap.size w w') : Bld w' B b l := by
  obtain ⟨p, v, h1, h2⟩ := h
  exact ⟨p, v, h1, h2.below hb⟩
theorem Bld.lt (h : Bld w B b l) : b < w.heap.size := by obtain ⟨p, v, h1, h2⟩ := h; exact h2.lt
theorem Bld.le (h : Bld w B b l) : B ≤ b := by obtain ⟨p, v, h1, h2⟩ := h; exact h2.le
end
theorem Bld.new (w : World) (B : Nat) (hB : B ≤ w.heap.size) : Bld (w.alloc (.cells #[.pointer none, .slice none 0 0] 81)) B w.heap.size [] :=
  ⟨_, _, .inl rfl, hB, heap_alloc_new w _, Owns.nil _ _ _, by simp [Value.ownBlock]⟩
/-- A block of another type is no buffer. -/
theorem own_ne {w : World} {B : Nat} {v : Value} {l : List Nat} {b : Nat} {cs : Array Value} {fr : Nat × Nat} (hown : Owns w B 5 v l) (hb : w.heap[b]? = some (.cells cs 81 fr)) : v.ownBlock ≠ some b :=
  Lib.ownBlock_ne hown hb (by decide)
theorem BAt.put {w : World} {B b : Nat} {p v v' : Value} {l : List Nat} (hB : B ≤ b) (hb : w.heap[b]? = some (.cells #[p, v] 81 (0, 0))) (hown : Owns w B 5 v' l) : BAt (w.setCell ⟨b, 1, none⟩ v') B b p v' l := by
  have hne := own_ne hown hb
  refine ⟨hB, ?_, ?_, hne⟩
  · simp [World.setCell, Array.getElem?_modify, hb]
  · exact hown.grown (row := some b) ⟨rfl, rfl, rfl, by simp [World.setCell], fun k _ hk => Below.heap_setCell _ _ _ _ (fun e => hk (by simp [e]))⟩ (Or.inr hne)
theorem BAt.used {w : World} {B b : Nat} {p v : Value} {l : List Nat} (h : BAt w B b p v l) (q : Value) : BAt (w.setCell ⟨b, 0, none⟩ q) B b q v l := by
  refine ⟨h.le, ?_, ?_, h.ne⟩
  · simp [World.setCell, Array.getElem?_modify, h.blk]
  · exact h.own.grown (row := some b) ⟨rfl, rfl, rfl, by simp [World.setCell], fun k _ hk => Below.heap_setCell _ _ _ _ (fun e => hk (by simp [e]))⟩ (Or.inr h.ne)
set_option maxHeartbeats 1000000 in
theorem copyCheckW {B b : Nat} {l : List Nat} (w : World) (h : Bld w B b l) :
    Calls Tryd.prog 61 #[.pointer (some ⟨b, 0, none⟩)] w fun e w' => e = .returned (.tuple #[]) ∧ (∃ v, BAt w' B b (.pointer (some ⟨b, 0, none⟩)) v l) ∧ Below B w w' ∧ w.grownBy w' (some b) := by
  obtain ⟨p, v, hp, h⟩ := h
  obtain ⟨j, hj, hjs⟩ := Option.map_eq_some_iff.1 sizeBuilder
  have c0 := h.c0
  have hsh := h.shape
  have hfz := h.free 0
  have HH := Lib.hid h
  clear h
  rcases hp with rfl | rfl
  · go_enter Tryd.func61, Tryd.ntmps61
    go_wp2
    rw [Lib.run_to_unsafe w ⟨b, 0, none⟩ Tryd.underlying79 Tryd.underlying97 hj (by rw [hjs]; decide) hsh (Nat.zero_lt_succ 1)]
    simp only [Result.andThen]
    rw [Oper.upon_value]
    go_wp2
    rw [run_callFunc_extern Tryd.func70 (by kernel_rfl) (by kernel_rfl) (by kernel_rfl) (e := Extern.AbiNoEscape.same) (by kernel_rfl)]
    rw [Lib.run_noEscape]
    simp only [Result.andThen]
    rw [Oper.upon_value]
    go_wp2
    rw [Lib.run_from_unsafe w ⟨b, 0, none⟩ Tryd.underlying97 Tryd.underlying79 hj hsh liesBuilder]
    simp only [Result.andThen]
    rw [Oper.upon_value]
    go_wp2
    go_end0
    exact ⟨rfl, ⟨v, HH.out.used _⟩, (Below.refl B w).setCell (p := ⟨b, 0, none⟩) HH.out.le _, ⟨rfl, rfl, rfl, by simp [World.setCell], fun k _ hk => Below.heap_setCell _ _ _ _ (fun e => hk (by simp [e]))⟩⟩
  · go_enter Tryd.func61, Tryd.ntmps61
    go_wp2
    rw [Lib.run_neq_ptr_same w _ Tryd.underlying79 hj]
    go_wp2
    go_end0
    exact ⟨rfl, ⟨v, HH.out⟩, Below.refl B _, World.grownBy.refl _ _⟩
set_option maxHeartbeats 2000000 in
theorem writeByteW {B b : Nat} {l : List Nat} (w : World) (c : Nat) (h : Bld w B b l) (hlen : l.length + 1 ≤ 1099511627776) (hBw : B ≤ w.heap.size) :
    Calls Tryd.prog 50 #[.pointer (some ⟨b, 0, none⟩), .int .u8 (c : Nat)] w fun e w' => e = .returned .nilIface ∧ Bld w' B b (l ++ [c]) ∧ Below B w w' := by
  have HC := Lib.hid (copyCheckW w h)
  clear h
  go_enter Tryd.func50, Tryd.ntmps50
  go_wp2_with fail
  refine HC.out.mono ?_
  rintro e w1 ⟨rfl, ⟨v, h1⟩, hb1, hq⟩
  obtain ⟨q0, cap0, rfl⟩ := h1.own.shape
  have c0 := h1.c0
  have c1 := h1.c1
  have HH := Lib.hid h1
  have HB := Lib.hid hb1
  have HO := Lib.hid (h1.own.alloc (.cells #[.int .u8 (c : Int)] 5))
  clear h1 hb1 hq
  go_wp2_with (at_builtin; refine wpList_append_bytes rfl _ _ 36 rfl Tryd.underlying36 infoU8 rfl HO.out ⟨w1.heap.size, 0, none⟩ 1 1 [c] rfl rfl ?c1 ?c2 ?c3 ?_)
  case c1 => intro j hj; obtain rfl : j = 0 := (by omega); simp [Addr.add]
  case c2 => omega
  case c3 => have := HB.out.size; simp; omega
  intro v' w2 hown' hgrow _
  have hb2 : w2.heap[b]? = some (.cells #[.pointer (some ⟨b, 0, none⟩), .slice q0 l.length cap0] 81 (0, 0)) := by
    rw [hgrow.block b (by have := HH.out.lt; simp; omega) (fun e => HH.out.ne e.symm), Lib.alloc_old w1 _ b HH.out.lt]
    exact HH.out.blk
  have d0 : w2.cell? ⟨b, 0, none⟩ = some (.pointer (some ⟨b, 0, none⟩)) := by rw [cell_of_row w2 b 0 _ _ (0, 0) hb2]; rfl
  have d1 : w2.cell? ⟨b, 1, none⟩ = some (.slice q0 l.length cap0) := by rw [cell_of_row w2 b 1 _ _ (0, 0) hb2]; rfl
  have f1 : w2.frozen? ⟨b, 1, none⟩ = false := frozen_of_row w2 b 1 _ _ hb2
  obtain ⟨q, cap, rfl⟩ := hown'.shape
  have HO2 := Lib.hid hown'
  have HB2 := Lib.hid hb2
  have HG := Lib.hid ((HB.out.alloc (by have := HB.out.size; omega) (.cells #[.int .u8 (c : Int)] 5)).grown hgrow (by have := HB.out.size; simp; omega) (fun k hk => (HO.out.block hk).1))
  clear hown' hgrow hb2 c0 c1
  go_wp2_with fail
  go_ret
  exact ⟨rfl, ⟨_, _, .inr rfl, BAt.put HH.out.le HB2.out (by have h := HO2.out; rw [List.length_append] at h; exact h)⟩, HG.out.setCell (p := ⟨b, 1, none⟩) HH.out.le _⟩
set_option maxHeartbeats 2000000 in
theorem writeStringW {B b : Nat} {l : List Nat} (w : World) (s : ByteArray) (h : Bld w B b l) (hlen : l.length + s.size ≤ 1099511627776) (hBw : B ≤ w.heap.size) :
    Calls Tryd.prog 52 #[.pointer (some ⟨b, 0, none⟩), .string s] w fun e w' => e = .returned (.tuple #[.int .i64 s.size, .nilIface]) ∧ Bld w' B b (l ++ bs s) ∧ Below B w w' := by
  have HC := Lib.hid (copyCheckW w h)
  clear h
  go_enter Tryd.func52, Tryd.ntmps52
  go_wp2_with fail
  refine HC.out.mono ?_
  rintro e w1 ⟨rfl, ⟨v, h1⟩, hb1, hq⟩
  obtain ⟨q0, cap0, rfl⟩ := h1.own.shape
  have c0 := h1.c0
  have c1 := h1.c1
  have HH := Lib.hid h1
  have HB := Lib.hid hb1
  have HO := Lib.hid h1.own
  clear h1 hb1 hq
  go_wp2_with (at_builtin; refine wpList_append_str rfl _ _ 36 9 rfl Tryd.underlying36 Tryd.underlying9 infoU8 rfl HO.out s rfl ?c2 ?c3 ?_)
  case c2 => omega
  case c3 => have := HB.out.size; omega
  intro v' w2 hown' hgrow _
  have hb2 : w2.heap[b]? = some (.cells #[.pointer (some ⟨b, 0, none⟩), .slice q0 l.length cap0] 81 (0, 0)) := by
    rw [hgrow.block b HH.out.lt (fun e => HH.out.ne e.symm)]
    exact HH.out.blk
  have d0 : w2.cell? ⟨b, 0, none⟩ = some (.pointer (some ⟨b, 0, none⟩)) := by rw [cell_of_row w2 b 0 _ _ (0, 0) hb2]; rfl
  have d1 : w2.cell? ⟨b, 1, none⟩ = some (.slice q0 l.length cap0) := by rw [cell_of_row w2 b 1 _ _ (0, 0) hb2]; rfl
  have f1 : w2.frozen? ⟨b, 1, none⟩ = false := frozen_of_row w2 b 1 _ _ hb2
  obtain ⟨q, cap, rfl⟩ := hown'.shape
  have HO2 := Lib.hid hown'
  have HB2 := Lib.hid hb2
  have HG := Lib.hid (HB.out.grown hgrow (by have := HB.out.size; omega) (fun k hk => (HO.out.block hk).1))
  clear hown' hgrow hb2 c0 c1
  go_wp2_with fail
  go_ret2
  exact ⟨rfl, ⟨_, _, .inr rfl, BAt.put HH.out.le HB2.out (by have h := HO2.out; rw [List.length_append] at h; exact h)⟩, HG.out.setCell (p := ⟨b, 1, none⟩) HH.out.le _⟩
set_option maxHeartbeats 2000000 in
theorem writeW {B b : Nat} {l : List Nat} (w : World) (ad : Addr) (c : Nat) (m : List Nat) (hm : ∀ j, j < m.length → w.cell? (ad.add j) = some (.int .u8 (m.getD j 0 : Nat))) (hB0 : ad.block ≠ b) (h : Bld w B b l) (hlen : l.length + m.length ≤ 1099511627776) (hBw : B ≤ w.heap.size) :
    Calls Tryd.prog 53 #[.pointer (some ⟨b, 0, none⟩), .slice (some ad) m.length c] w fun e w' => e = .returned (.tuple #[.int .i64 m.length, .nilIface]) ∧ Bld w' B b (l ++ m) ∧ Below B w w' := by
  have HC := Lib.hid (copyCheckW w h)
  have HM0 := Lib.hid hm
  clear h hm
  go_enter Tryd.func53, Tryd.ntmps53
  go_wp2_with fail
  refine HC.out.mono ?_
  rintro e w1 ⟨rfl, ⟨v, h1⟩, hb1, hq⟩
  obtain ⟨q0, cap0, rfl⟩ := h1.own.shape
  have c0 := h1.c0
  have c1 := h1.c1
  have HH := Lib.hid h1
  have HB := Lib.hid hb1
  have HO := Lib.hid h1.own
  have HM : Hid (∀ j, j < m.length → w1.cell? (ad.add j) = some (.int .u8 (m.getD j 0 : Nat))) := fun j hj => by
    have h0 := HM0.out j hj
    have hl := block_lt_of_cell h0
    have e := hq.block (ad.add j).block hl (by rw [add_block]; intro e; injection e with e; exact hB0 e)
    rw [← h0]; unfold World.cell?; rw [e]
  clear h1 hb1 hq
  go_wp2_with (at_builtin; refine wpList_append_bytes rfl _ _ 36 rfl Tryd.underlying36 infoU8 rfl HO.out ad m.length c m rfl rfl HM.out ?c2 ?c3 ?_)
  case c2 => omega
  case c3 => have := HB.out.size; omega
  intro v' w2 hown' hgrow _
  have hb2 : w2.heap[b]? = some (.cells #[.pointer (some ⟨b, 0, none⟩), .slice q0 l.length cap0] 81 (0, 0)) := by
    rw [hgrow.block b HH.out.lt (fun e => HH.out.ne e.symm)]
    exact HH.out.blk
  have d0 : w2.cell? ⟨b, 0, none⟩ = some (.pointer (some ⟨b, 0, none⟩)) := by rw [cell_of_row w2 b 0 _ _ (0, 0) hb2]; rfl
  have d1 : w2.cell? ⟨b, 1, none⟩ = some (.slice q0 l.length cap0) := by rw [cell_of_row w2 b 1 _ _ (0, 0) hb2]; rfl
  have f1 : w2.frozen? ⟨b, 1, none⟩ = false := frozen_of_row w2 b 1 _ _ hb2
  obtain ⟨q, cap, rfl⟩ := hown'.shape
  have HO2 := Lib.hid hown'
  have HB2 := Lib.hid hb2
  have HG := Lib.hid (HB.out.grown hgrow (by have := HB.out.size; omega) (fun k hk => (HO.out.block hk).1))
  clear hown' hgrow hb2 c0 c1
  go_wp2_with fail
  go_ret2
  exact ⟨rfl, ⟨_, _, .inr rfl, BAt.put HH.out.le HB2.out (by have h := HO2.out; rw [List.length_append] at h; exact h)⟩, HG.out.setCell (p := ⟨b, 1, none⟩) HH.out.le _⟩
/-- String. -/
theorem stringW {B b : Nat} {l : List Nat} (w : World) (h : Bld w B b l) (hl : ∀ c ∈ l, c < 256) (hBw : B ≤ w.heap.size) :
    Calls Tryd.prog 51 #[.pointer (some ⟨b, 0, none⟩)] w fun e w' => e = .returned (.string (strOf l)) ∧ Below B w w' := by
  refine Tryd.Builder_String_any B b (l.map UInt8.ofNat) w ?_ hBw
  have e : Lib.byteCells (l.map UInt8.ofNat) = nums .u8 l := by
    unfold Lib.byteCells nums
    rw [List.map_map]
    refine List.map_congr_left fun c hc => ?_
    show Value.int .u8 ((UInt8.ofNat c).toNat : Int) = _
    rw [UInt8.toNat_ofNat', Nat.mod_eq_of_lt (hl c hc)]
  rw [e]
  obtain ⟨p, v, hp, h⟩ := h
  have h2 : Lib.BuilderAt 81 5 B b p (nums .u8 l) w := ⟨h.le, v, h.blk, by have := h.own; unfold Owns at this; rwa [length_nums], h.ne⟩
  rcases hp with rfl | rfl
  · exact .inl h2
  · exact .inr h2
end Go.Proofs.YthdoeaiehajofaaDoor
