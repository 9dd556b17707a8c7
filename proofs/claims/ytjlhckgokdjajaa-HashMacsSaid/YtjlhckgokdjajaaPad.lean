/- The walk of the closure 'padded' in Mac. -/
import Derived.Test.YtjlhckgokdjajaaTop
namespace Go.Proofs.Ytjlhckgokdjajaa
open Go.RowKit
theorem wpList_copy_str_Row {P : Program} {ops : Array Oper} {rest : List Oper} {o : Oper} {a : Act} {w : World} {Q : Exit → Act → World → Prop} (hgd : o.guard = none) (d s : Operand) (dT sT : TypeId) (ho : o.op = .call { callee := .builtin .copy, args := #[d, s], argTypes := #[dT, sT] }) {elem : TypeId} (hu : P.underlying dT = some (.slice elem)) (hsz : (P.info? elem).map (·.size) = some 1)
    {g T N : Nat} {f : Nat → Nat} (dCap : Nat) (str : ByteArray) (hd : a.eval d = .slice (some ⟨g, 0, none⟩) N dCap) (hs : a.eval s = .string str) (hg : Row w g T .u8 N f) (hn : str.size ≤ N)
    (h : ∀ w', Row w' g T .u8 N (fun j => if j < str.size then (bs str).getD j 0 else f j) → w.grownBy w' (some g) → w'.heap.size = w.heap.size → wpList P ops Q rest (a.put o.dst (goInt str.size)) w') : wpList P ops Q (o :: rest) a w := by
  have hl : (rowOf .u8 N f).length = N := length_rowOf _ _ _
  have hnl : (nums .u8 (bs str)).length = str.size := by rw [length_nums, length_bs]
  have hst := run_storeCells_at P g 0 T (nums .u8 (bs str)) 0 (rowOf .u8 N f).toArray w hg.heap (by rw [hnl, List.size_toArray, hl]; omega) (oneCell_nums .u8 _)
  rw [hnl] at hst
  simp only [Nat.add_zero] at hst
  have htk : (List.map (fun b : UInt8 => Value.int IntKind.u8 (b.toNat : Int)) str.data.toList) = nums .u8 (bs str) := by simp only [nums, bs, List.map_map]; rfl
  have hmin : Nat.min str.size N = str.size := Nat.min_eq_left hn
  have htk2 : List.take str.size (nums .u8 (bs str)) = nums .u8 (bs str) := List.take_of_length_le (by omega)
  refine wpList_run hgd _ (w.setRow g ((rowOf .u8 N f).toArray.toList.take 0 ++ nums .u8 (bs str) ++ (rowOf .u8 N f).toArray.toList.drop (0 + str.size)).toArray) ?_ (h _ (Row.of ?_) ⟨rfl, rfl, rfl, by simp, fun k _ hk => setRow_other w g k _ (fun e => hk (by rw [e]))⟩ (by simp))
  · cases hq : P.info? elem with
    | none => simp [hq] at hsz
    | some i0 =>
      have hi0 : i0.size = 1 := by simpa [hq] using hsz
      have hrun : (Builtin.copy_ #[dT, sT] o.type #[.slice (some ⟨g, 0, none⟩) N dCap, .string str]).run P w = .ok (goInt str.size) (w.setRow g ((rowOf .u8 N f).toArray.toList.take 0 ++ nums .u8 (bs str) ++ (rowOf .u8 N f).toArray.toList.drop (0 + str.size)).toArray) := by
        simp [Builtin.copy_, run_underlying hu, Builtin.lenOf, Builtin.firstCells, sizeOf, typeInfo, hq, hmin]
        rw [htk, htk2, hst]
        simp [Result.andThen]
      unfold execOp
      simp only [ho, resolve, invoke, builtin, Sem.run_bind, Sem.run_pure, Result.andThen_ok, List.map_toArray, List.map_cons, List.map_nil, hd, hs, hrun]
  · rw [setRow_heap w g _ _ T _ hg.heap]
    refine congrArg (fun l : List Value => some (Obj.cells l.toArray T (0, 0))) ?_
    have hm := fun j => getElem?_mid (rowOf .u8 N f) (nums .u8 (bs str)) 0 j (by rw [hnl, hl]; omega)
    simp only [hnl] at hm
    refine List.ext_getElem? fun j => ?_
    rw [hm]
    by_cases c : j < str.size
    · rw [if_pos (by omega), getElem?_rowOf _ _ _ _ (by omega), if_pos c]
      have : j < (bs str).length := by rw [length_bs]; omega
      simp [nums, this]
    · rw [if_neg (by omega)]
      by_cases c2 : j < N
      · rw [getElem?_rowOf _ _ _ _ c2, getElem?_rowOf _ _ _ _ c2, if_neg c]
      · rw [List.getElem?_eq_none (by omega), List.getElem?_eq_none (by rw [length_rowOf]; omega)]
theorem getD_bs_lt (s : ByteArray) (j : Nat) : (bs s).getD j 0 < 256 := by
  by_cases h : j < (bs s).length
  · rw [List.getD_eq_getElem?_getD, List.getElem?_eq_getElem h]; exact bs_lt s _ (List.getElem_mem h)
  · rw [Sha.getD_out (by omega)]; decide

set_option maxRecDepth 100000 in
set_option maxHeartbeats 400000 in
theorem padded32 (x : Nat) (hx : x < 256) (pi pk : Addr) (b : Nat) (key : ByteArray) (w : World) (hi : w.cell? pi = some (.pointer (some ⟨b, 0, none⟩))) (hb : w.cell? ⟨b, 13, none⟩ = some (.int .i64 64)) (hk : w.cell? pk = some (.string key)) (hn : key.size ≤ 64) :
    Calls Try.prog 26 #[.int .u8 (x : Int), .pointer (some pi), .pointer (some pk)] w fun e w' => e = .returned (.string (strOf (Sha.padded Sha.k32 (bs key) x))) ∧ Below w.heap.size w w' := by
  have hmk : ∀ w, (Instr.makeSlice 42 (.int .i64 64) (.int .i64 64)).run Try.prog w = .ok (.slice (some ⟨w.heap.size, 0, none⟩) 64 64) (w.alloc (.cells (rowOf .u8 64 (fun _ => 0)).toArray 5)) := fun _ => by kernel_rfl
  have hk' : ∀ ob, (w.alloc ob).cell? pk = some (.string key) := fun ob => by
    have := block_lt_of_cell hk
    rw [World.cell?_of_block (w := w) (heap_lt this)]; exact hk
  have HX := Lib.hid hx
  have HN := Lib.hid hn
  clear hx hn
  go_enter Try.func26, Try.ntmps26
  go_wp2_with (refine wpList_copy_str_Row rfl _ _ 42 9 rfl Try.underlying42 (by kernel_rfl) (g := w.heap.size) (T := 5) (N := 64) (f := fun _ => 0) 64 key rfl rfl (Row.of (heap_at rfl)) HN.out ?_; intro w1 hr1 hg1 hs1)
  have hle := Nat.le_refl w.heap.size
  have hb1 : Below w.heap.size w w1 := ((Below.refl w.heap.size w).alloc hle _).trans (grown_below hg1 (Nat.le_refl _) (by simp))
  have HR1 := Lib.hid hr1
  have HB1 := Lib.hid hb1
  obtain ⟨G, hG⟩ : ∃ G : Nat → Nat, G = fun i => if i < key.size then (bs key).getD i 0 else 0 := ⟨_, rfl⟩
  have HG := Lib.hid hG
  have hGlt : ∀ i, G i < 256 := by intro i; rw [hG]; dsimp only; split; exact getD_bs_lt _ _; decide
  clear hr1 hb1 hg1 hs1 hk hi hb hmk hk' hG
  go_loopw [18] (fun v wr => ∃ i : Nat, i ≤ 64 ∧ v = .int .i64 (i : Nat) ∧ Row wr w.heap.size 5 .u8 64 (fun j => if j < i then G j ^^^ x else G j) ∧ Below w.heap.size w wr) (fun v _ => (64 - intOf v).toNat)
  case atStart => exact ⟨0, by omega, rfl, HR1.out.congr (by intro j _; rw [HG.out]; simp), HB1.out⟩
  case round =>
    obtain ⟨i, hi, rfl, hr, hbw⟩ := hrel
    have HBW := Lib.hid hbw
    clear hbw
    by_cases hlt : i < 64
    · have c1 : wr.cell? ⟨w.heap.size, i, none⟩ = some (.int .u8 (G i : Nat)) := by
        have := hr.cell hlt
        simpa using this
      have hf := hr.free i
      go_wp2_with fail
      have hx8 := hr.set hlt (G i ^^^ x)
      rw [xor_u8 _ _ (hGlt i) HX.out]
      refine ⟨⟨i + 1, by omega, rfl, hx8.congr ?_, HBW.out.setCell (by simp) _⟩, by simp [intOf]; omega⟩
      intro j hj
      by_cases e : j = i
      · subst e; simp
      · rw [if_neg e]
        by_cases c : j < i
        · rw [if_pos c, if_pos (by omega)]
        · rw [if_neg c, if_neg (by omega)]
    · have hi64 : i = 64 := by omega
      subst hi64
      have hcells : ∀ k, k < 64 → wr.cell? ⟨w.heap.size, k, none⟩ = some (.int .u8 ((G k ^^^ x : Nat) : Int)) := fun k hk => by
        have := hr.cell hk
        simpa [hk] using this
      obtain ⟨pl, hpl⟩ : ∃ pl, pl = Sha.padded Sha.k32 (bs key) x := ⟨_, rfl⟩
      have hpl2 : pl = (List.range 64).map fun k => G k ^^^ x := by
        rw [hpl]
        show (List.range 64).map _ = (List.range 64).map _
        refine List.map_congr_left fun k _ => ?_
        rw [HG.out]
        dsimp only
        split
        · rfl
        · rename_i h; rw [Sha.getD_out (by rw [length_bs]; omega)]
      have HPL := Lib.hid hpl
      have HPL2 := Lib.hid hpl2
      clear hr hpl hpl2
      go_wp2_with (first | (with_reducible refine wpList_bytes_string (o := ⟨some 30, _, _, _, _, _⟩) rfl 42 9 _ rfl Try.underlying42 Try.underlying5 Try.underlying9 w.heap.size 0 64 64 rfl pl ?e2 ?e3 ?_))
      case e2 => rw [HPL2.out]; simp
      case e3 => intro k hk; rw [HPL2.out]; have := hcells k hk; simpa [hk] using this
      go_ret
      rw [← HPL.out]
      exact ⟨rfl, HBW.out⟩
set_option maxRecDepth 100000 in
set_option maxHeartbeats 400000 in
theorem padded64 (x : Nat) (hx : x < 256) (pi pk : Addr) (b : Nat) (key : ByteArray) (w : World) (hi : w.cell? pi = some (.pointer (some ⟨b, 0, none⟩))) (hb : w.cell? ⟨b, 13, none⟩ = some (.int .i64 128)) (hk : w.cell? pk = some (.string key)) (hn : key.size ≤ 128) :
    Calls Try.prog 26 #[.int .u8 (x : Int), .pointer (some pi), .pointer (some pk)] w fun e w' => e = .returned (.string (strOf (Sha.padded Sha.k64 (bs key) x))) ∧ Below w.heap.size w w' := by
  have hmk : ∀ w, (Instr.makeSlice 42 (.int .i64 128) (.int .i64 128)).run Try.prog w = .ok (.slice (some ⟨w.heap.size, 0, none⟩) 128 128) (w.alloc (.cells (rowOf .u8 128 (fun _ => 0)).toArray 5)) := fun _ => by kernel_rfl
  have hk' : ∀ ob, (w.alloc ob).cell? pk = some (.string key) := fun ob => by
    have := block_lt_of_cell hk
    rw [World.cell?_of_block (w := w) (heap_lt this)]; exact hk
  have HX := Lib.hid hx
  have HN := Lib.hid hn
  clear hx hn
  go_enter Try.func26, Try.ntmps26
  go_wp2_with (refine wpList_copy_str_Row rfl _ _ 42 9 rfl Try.underlying42 (by kernel_rfl) (g := w.heap.size) (T := 5) (N := 128) (f := fun _ => 0) 128 key rfl rfl (Row.of (heap_at rfl)) HN.out ?_; intro w1 hr1 hg1 hs1)
  have hle := Nat.le_refl w.heap.size
  have hb1 : Below w.heap.size w w1 := ((Below.refl w.heap.size w).alloc hle _).trans (grown_below hg1 (Nat.le_refl _) (by simp))
  have HR1 := Lib.hid hr1
  have HB1 := Lib.hid hb1
  obtain ⟨G, hG⟩ : ∃ G : Nat → Nat, G = fun i => if i < key.size then (bs key).getD i 0 else 0 := ⟨_, rfl⟩
  have HG := Lib.hid hG
  have hGlt : ∀ i, G i < 256 := by intro i; rw [hG]; dsimp only; split; exact getD_bs_lt _ _; decide
  clear hr1 hb1 hg1 hs1 hk hi hb hmk hk' hG
  go_loopw [18] (fun v wr => ∃ i : Nat, i ≤ 128 ∧ v = .int .i64 (i : Nat) ∧ Row wr w.heap.size 5 .u8 128 (fun j => if j < i then G j ^^^ x else G j) ∧ Below w.heap.size w wr) (fun v _ => (128 - intOf v).toNat)
  case atStart => exact ⟨0, by omega, rfl, HR1.out.congr (by intro j _; rw [HG.out]; simp), HB1.out⟩
  case round =>
    obtain ⟨i, hi, rfl, hr, hbw⟩ := hrel
    have HBW := Lib.hid hbw
    clear hbw
    by_cases hlt : i < 128
    · have c1 : wr.cell? ⟨w.heap.size, i, none⟩ = some (.int .u8 (G i : Nat)) := by
        have := hr.cell hlt
        simpa using this
      have hf := hr.free i
      go_wp2_with fail
      have hx8 := hr.set hlt (G i ^^^ x)
      rw [xor_u8 _ _ (hGlt i) HX.out]
      refine ⟨⟨i + 1, by omega, rfl, hx8.congr ?_, HBW.out.setCell (by simp) _⟩, by simp [intOf]; omega⟩
      intro j hj
      by_cases e : j = i
      · subst e; simp
      · rw [if_neg e]
        by_cases c : j < i
        · rw [if_pos c, if_pos (by omega)]
        · rw [if_neg c, if_neg (by omega)]
    · have hi64 : i = 128 := by omega
      subst hi64
      have hcells : ∀ k, k < 128 → wr.cell? ⟨w.heap.size, k, none⟩ = some (.int .u8 ((G k ^^^ x : Nat) : Int)) := fun k hk => by
        have := hr.cell hk
        simpa [hk] using this
      obtain ⟨pl, hpl⟩ : ∃ pl, pl = Sha.padded Sha.k64 (bs key) x := ⟨_, rfl⟩
      have hpl2 : pl = (List.range 128).map fun k => G k ^^^ x := by
        rw [hpl]
        show (List.range 128).map _ = (List.range 128).map _
        refine List.map_congr_left fun k _ => ?_
        rw [HG.out]
        dsimp only
        split
        · rfl
        · rename_i h; rw [Sha.getD_out (by rw [length_bs]; omega)]
      have HPL := Lib.hid hpl
      have HPL2 := Lib.hid hpl2
      clear hr hpl hpl2
      go_wp2_with (first | (with_reducible refine wpList_bytes_string (o := ⟨some 30, _, _, _, _, _⟩) rfl 42 9 _ rfl Try.underlying42 Try.underlying5 Try.underlying9 w.heap.size 0 128 128 rfl pl ?e2 ?e3 ?_))
      case e2 => rw [HPL2.out]; simp
      case e3 => intro k hk; rw [HPL2.out]; have := hcells k hk; simpa [hk] using this
      go_ret
      rw [← HPL.out]
      exact ⟨rfl, HBW.out⟩
end Go.Proofs.Ytjlhckgokdjajaa
