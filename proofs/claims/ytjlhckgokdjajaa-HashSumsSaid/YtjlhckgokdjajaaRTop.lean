/- The reference's Sum and Mac by a kind's number. -/
import Derived.Test.YtjlhckgokdjajaaRMac
import Derived.Test.YtjlhckgokdjajaaOf1
import Derived.Test.YtjlhckgokdjajaaUni
namespace Go.Proofs.Ytjlhckgokdjajaa
open Go.RowKit
set_option maxRecDepth 100000 in
set_option maxHeartbeats 800000 in
theorem ofNo (k : Int) (h : k < 0 ∨ 1 < k) (w : World) :
    Calls Try.prog 24 #[.int .i64 k] w fun e w' => e = .returned (.tuple #[.agg (rk32 nilV nilV), .bool false]) ∧ Below w.heap.size w w' := by
  have hinf : (Try.prog.info? 51).map (·.size) = some 17 := by kernel_rfl
  have h1 : (k == 1) = false := by rw [beq_eq_false_iff_ne]; omega
  have HINF := Lib.hid hinf
  clear hinf
  rcases h with h | h
  all_goals
    go_enter Try.func24, Try.ntmps24
    go_wp2_with (first
      | (with_reducible refine wpList_run (o := ⟨some 2, _, _, _, _, _⟩) rfl (.pointer (some ⟨w.heap.size, 0, none⟩)) (w.alloc (.cells rkz 51)) (by kernel_rfl) ?_)
      | (with_reducible refine wpList_pure (o := ⟨some 13, _, _, _, _, _⟩) rfl (.agg (rk32 nilV nilV)) (fun _ => by kernel_rfl) ?_)
      | (refine wpList_store_blk rfl 51 _ (.tmp 13) rfl (w.heap.size + 1) 0 (rk32 nilV nilV) rfl rfl rkz 51 (heap_at (by simp)) (by decide) HINF.out (one_rk32 _ _ rfl rfl) ?_; intro w0 hh0 hg0 hs0; replace hh0 := Lib.hid hh0; replace hg0 := Lib.hid hg0; replace hs0 := Lib.hid hs0)
      | (refine wpList_load_row rfl 51 _ rfl (w.heap.size + 1) rfl 51 _ (0, 0) _ hh0.out Try.underlying51 rfl HINF.out ?_)
      | (refine wpList_store_blk rfl 51 _ (.tmp 27) rfl w.heap.size 0 (rk32 nilV nilV) rfl rfl rkz 51 ((hg0.out.block w.heap.size (by simp; omega) (by intro e; injection e with e; omega)).trans ((heap_lt (by simp)).trans (heap_at rfl))) (by decide) HINF.out (one_rk32 _ _ rfl rfl) ?_; intro w1 hh1 hg1 hs1; replace hh1 := Lib.hid hh1; replace hg1 := Lib.hid hg1; replace hs1 := Lib.hid hs1))
    have hz1 : w1.heap[w.heap.size]? = some (.cells (rk32 nilV nilV) 51 (0, 0)) := by rw [hh1.out]; rfl
    have hld := run_loadVar_row (P := Try.prog) w1 w.heap.size 51 51 _ (0, 0) _ hz1 Try.underlying51 rfl HINF.out
    refine bodyPost_ret (v := .tuple #[.agg (rk32 nilV nilV), .bool false]) (by simp [results, Try.results24, asAddr, hld]) rfl ?_
    have hb0 : Below w.heap.size w w0 := (((Below.refl _ _).alloc (Nat.le_refl _) _).alloc (by simp) _).trans (grown_below hg0.out (by omega) (by simp; omega))
    exact ⟨rfl, hb0.trans (grown_below hg1.out (by omega) hb0.size)⟩
/-- What the two kinds have alike. -/
structure KindOf (k : Nat) (κ : Sha.Kind) (R wide : Nat) (C : Nat → Nat → Nat → Nat → Array Value) : Prop where
  of : ∀ w, Calls Try.prog 24 #[.int .i64 (k : Nat)] w fun e w' => ∃ gK cK gF cF, e = .returned (.tuple #[.agg (C gK cK gF cF), .bool true]) ∧
      Cells64 w' gK R (fun j => κ.keys.getD j 0) ∧ Cells64 w' gF 8 (fun j => κ.init.getD j 0) ∧ Below w.heap.size w w'
  ka : ∀ gK cK gF cF, KAll κ (C gK cK gF cF) R wide gK cK
  kb : ∀ gK cK gF cF, KMore κ (C gK cK gF cF) wide gF cF
  one : ∀ gK cK gF cF, ∀ v ∈ (C gK cK gF cF).toList, v.oneCell' = true
theorem kindOf0 : KindOf 0 Sha.k32 64 4 (fun gK cK gF cF => rk32 (sl gK 64 cK) (sl gF 8 cF)) := ⟨of0, k32_all, k32_more, fun _ _ _ _ => one_rk32 _ _ rfl rfl⟩
theorem kindOf1 : KindOf 1 Sha.k64 80 8 (fun gK cK gF cF => rk64 (sl gK 80 cK) (sl gF 8 cF)) := ⟨of1, k64_all, k64_more, fun _ _ _ _ => one_rk64 _ _ rfl rfl⟩
set_option maxRecDepth 100000 in
set_option maxHeartbeats 800000 in
theorem rsumK {k : Nat} {κ : Sha.Kind} {R wide : Nat} {C : Nat → Nat → Nat → Nat → Array Value} (ko : KindOf k κ R wide C) (s : ByteArray) (w : World) (hs : s.size ≤ 140737488354000) :
    Calls Try.prog 12 #[.int .i64 (k : Nat), .string s] w fun e w' => e = .returned (.tuple #[.string (strOf (Sha.sum κ (bs s))), .int .i64 0]) ∧ Below w.heap.size w w' := by
  have hinf : (Try.prog.info? 51).map (·.size) = some 17 := by kernel_rfl
  have HINF := Lib.hid hinf
  have KO := Lib.hid ko
  clear hinf ko
  go_enter Try.func12, Try.ntmps12
  go_wp2_with fail
  refine (KO.out.of _).mono ?_
  rintro e w1 ⟨gK, cK, gF, cF, rfl, hk, hf, hb1⟩
  have KA := Lib.hid (KO.out.ka gK cK gF cF)
  have KB := Lib.hid (KO.out.kb gK cK gF cF)
  have ONE := Lib.hid (KO.out.one gK cK gF cF)
  obtain ⟨cs, hcs⟩ : ∃ cs, cs = C gK cK gF cF := ⟨_, rfl⟩
  rw [← hcs] at KA KB ONE ⊢
  have hn : cs.size = 17 := KA.out.kc.n
  have HN := Lib.hid hn
  have HK := Lib.hid hk
  have HF := Lib.hid hf
  have HB1 := Lib.hid hb1
  clear hcs hn hk hf hb1 KO
  go_wp2_with (first
    | (with_reducible refine wpList_run (o := ⟨some 6, _, _, _, _, _⟩) rfl (.pointer (some ⟨w1.heap.size, 0, none⟩)) (w1.alloc (.cells rkz 51)) (by kernel_rfl) ?_)
    | (refine wpList_store_blk rfl 51 _ _ rfl w1.heap.size 0 cs rfl rfl rkz 51 (heap_at rfl) (by rw [HN.out]; decide) (by rw [HN.out]; exact HINF.out) ONE.out ?_; intro w2 hh2 hg2 hs2; replace hh2 := Lib.hid hh2; replace hg2 := Lib.hid hg2; replace hs2 := Lib.hid hs2; have kl := run_kindLoad w2 w1.heap.size cs HN.out (hh2.out.trans (by
        refine congrArg (fun l : List Value => some (Obj.cells l.toArray 51 (0, 0))) ?_
        rw [List.take_zero, List.nil_append, List.drop_eq_nil_of_le (by rw [HN.out]; decide), List.append_nil]))))
  have hb2 : Below w1.heap.size w1 w2 := ((Below.refl _ _).alloc (Nat.le_refl _) _).trans (grown_below hg2.out (Nat.le_refl _) (by simp))
  refine (rsumW κ cs R wide gK cK gF cF KA.out KB.out s w2 (HK.out.below hb2) (HF.out.below hb2) hs).mono ?_
  rintro e w3 ⟨rfl, hb3⟩
  have HB3 := Lib.hid (HB1.out.trans ((hb2.trans (hb3.mono hb2.size)).mono HB1.out.size))
  clear hb2 hb3
  go_wp2_with fail
  go_ret2
  exact ⟨rfl, HB3.out⟩
set_option maxRecDepth 100000 in
set_option maxHeartbeats 800000 in
theorem rmacK {k : Nat} {κ : Sha.Kind} {R wide : Nat} {C : Nat → Nat → Nat → Nat → Array Value} (ko : KindOf k κ R wide C) (key s : ByteArray) (w : World) (hk : key.size ≤ 140737488353000) (hs : s.size ≤ 140737488353000) :
    Calls Try.prog 15 #[.int .i64 (k : Nat), .string key, .string s] w fun e w' => e = .returned (.tuple #[.string (strOf (Sha.mac κ (bs key) (bs s))), .int .i64 0]) ∧ Below w.heap.size w w' := by
  have hinf : (Try.prog.info? 51).map (·.size) = some 17 := by kernel_rfl
  have HINF := Lib.hid hinf
  have KO := Lib.hid ko
  clear hinf ko
  go_enter Try.func15, Try.ntmps15
  go_wp2_with fail
  refine (KO.out.of _).mono ?_
  rintro e w1 ⟨gK, cK, gF, cF, rfl, hk, hf, hb1⟩
  have KA := Lib.hid (KO.out.ka gK cK gF cF)
  have KB := Lib.hid (KO.out.kb gK cK gF cF)
  have ONE := Lib.hid (KO.out.one gK cK gF cF)
  obtain ⟨cs, hcs⟩ : ∃ cs, cs = C gK cK gF cF := ⟨_, rfl⟩
  rw [← hcs] at KA KB ONE ⊢
  have hn : cs.size = 17 := KA.out.kc.n
  have HN := Lib.hid hn
  have HK := Lib.hid hk
  have HF := Lib.hid hf
  have HB1 := Lib.hid hb1
  clear hcs hn hk hf hb1 KO
  go_wp2_with (first
    | (with_reducible refine wpList_run (o := ⟨some 8, _, _, _, _, _⟩) rfl (.pointer (some ⟨w1.heap.size, 0, none⟩)) (w1.alloc (.cells rkz 51)) (by kernel_rfl) ?_)
    | (refine wpList_store_blk rfl 51 _ _ rfl w1.heap.size 0 cs rfl rfl rkz 51 (heap_at rfl) (by rw [HN.out]; decide) (by rw [HN.out]; exact HINF.out) ONE.out ?_; intro w2 hh2 hg2 hs2; replace hh2 := Lib.hid hh2; replace hg2 := Lib.hid hg2; replace hs2 := Lib.hid hs2; have kl := run_kindLoad w2 w1.heap.size cs HN.out (hh2.out.trans (by
        refine congrArg (fun l : List Value => some (Obj.cells l.toArray 51 (0, 0))) ?_
        rw [List.take_zero, List.nil_append, List.drop_eq_nil_of_le (by rw [HN.out]; decide), List.append_nil]))))
  have hb2 : Below w1.heap.size w1 w2 := ((Below.refl _ _).alloc (Nat.le_refl _) _).trans (grown_below hg2.out (Nat.le_refl _) (by simp))
  refine (rmacW κ cs R wide gK cK gF cF KA.out KB.out key s w2 (HK.out.below hb2) (HF.out.below hb2) ‹_› hs).mono ?_
  rintro e w3 ⟨rfl, hb3⟩
  have HB3 := Lib.hid (HB1.out.trans ((hb2.trans (hb3.mono hb2.size)).mono HB1.out.size))
  clear hb2 hb3
  go_wp2_with fail
  go_ret2
  exact ⟨rfl, HB3.out⟩
set_option maxRecDepth 100000 in
set_option maxHeartbeats 800000 in
theorem rsumNo (k : Int) (h : k < 0 ∨ 1 < k) (s : ByteArray) (w : World) :
    Calls Try.prog 12 #[.int .i64 k, .string s] w fun e w' => e = .returned (.tuple #[.string ByteArray.empty, .int .i64 20]) ∧ Below w.heap.size w w' := by
  have hinf : (Try.prog.info? 51).map (·.size) = some 17 := by kernel_rfl
  have HINF := Lib.hid hinf
  have HK := Lib.hid h
  clear hinf h
  go_enter Try.func12, Try.ntmps12
  go_wp2_with fail
  refine (ofNo k HK.out _).mono ?_
  rintro e w1 ⟨rfl, hb1⟩
  have HB1 := Lib.hid hb1
  clear hb1
  go_wp2_with (first
    | (with_reducible refine wpList_run (o := ⟨some 6, _, _, _, _, _⟩) rfl (.pointer (some ⟨w1.heap.size, 0, none⟩)) (w1.alloc (.cells rkz 51)) (by kernel_rfl) ?_)
    | (refine wpList_store_blk rfl 51 _ _ rfl w1.heap.size 0 (rk32 nilV nilV) rfl rfl rkz 51 (heap_at rfl) (by decide) HINF.out (one_rk32 _ _ rfl rfl) ?_; intro w2 hh2 hg2 hs2; replace hh2 := Lib.hid hh2; replace hg2 := Lib.hid hg2; replace hs2 := Lib.hid hs2))
  have hb2 : Below w1.heap.size w1 w2 := ((Below.refl _ _).alloc (Nat.le_refl _) _).trans (grown_below hg2.out (Nat.le_refl _) (by simp))
  go_ret2
  exact ⟨rfl, HB1.out.trans (hb2.mono HB1.out.size)⟩
set_option maxRecDepth 100000 in
set_option maxHeartbeats 800000 in
theorem rmacNo (k : Int) (h : k < 0 ∨ 1 < k) (key s : ByteArray) (w : World) :
    Calls Try.prog 15 #[.int .i64 k, .string key, .string s] w fun e w' => e = .returned (.tuple #[.string ByteArray.empty, .int .i64 20]) ∧ Below w.heap.size w w' := by
  have hinf : (Try.prog.info? 51).map (·.size) = some 17 := by kernel_rfl
  have HINF := Lib.hid hinf
  have HK := Lib.hid h
  clear hinf h
  go_enter Try.func15, Try.ntmps15
  go_wp2_with fail
  refine (ofNo k HK.out _).mono ?_
  rintro e w1 ⟨rfl, hb1⟩
  have HB1 := Lib.hid hb1
  clear hb1
  go_wp2_with (first
    | (with_reducible refine wpList_run (o := ⟨some 8, _, _, _, _, _⟩) rfl (.pointer (some ⟨w1.heap.size, 0, none⟩)) (w1.alloc (.cells rkz 51)) (by kernel_rfl) ?_)
    | (refine wpList_store_blk rfl 51 _ _ rfl w1.heap.size 0 (rk32 nilV nilV) rfl rfl rkz 51 (heap_at rfl) (by decide) HINF.out (one_rk32 _ _ rfl rfl) ?_; intro w2 hh2 hg2 hs2; replace hh2 := Lib.hid hh2; replace hg2 := Lib.hid hg2; replace hs2 := Lib.hid hs2))
  have hb2 : Below w1.heap.size w1 w2 := ((Below.refl _ _).alloc (Nat.le_refl _) _).trans (grown_below hg2.out (Nat.le_refl _) (by simp))
  go_ret2
  exact ⟨rfl, HB1.out.trans (hb2.mono HB1.out.size)⟩
end Go.Proofs.Ytjlhckgokdjajaa
