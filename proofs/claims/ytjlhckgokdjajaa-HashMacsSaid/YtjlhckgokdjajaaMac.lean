/- The walk of Mac. -/
import Derived.Test.YtjlhckgokdjajaaPad
namespace Go.Proofs.Ytjlhckgokdjajaa
open Go.RowKit
structure MSt32 (w wt : World) (pk pi b1 b2 : Nat) (key : ByteArray) (t1 t2 : List Nat) : Prop where
  o1 : pk < b1
  o2 : b1 < pi
  o3 : pi < b2
  ck : wt.heap[pk]? = some (.cells #[.string key] 9 (0, 0))
  ci : wt.heap[pi]? = some (.cells #[.pointer (some ⟨b1, 0, none⟩)] 29 (0, 0))
  i : IsH32 wt b1 t1
  o : IsH32 wt b2 t2
  bel : Below pk w wt
section
variable {w wt wt' : World} {pk pi b1 b2 : Nat} {key : ByteArray} {t1 t2 t' : List Nat}
theorem MSt32.lt (h : MSt32 w wt pk pi b1 b2 key t1 t2) : b2 < wt.heap.size := h.o.lt
theorem MSt32.below (h : MSt32 w wt pk pi b1 b2 key t1 t2) (hb : Below wt.heap.size wt wt') : MSt32 w wt' pk pi b1 b2 key t1 t2 := by
  have := h.lt; have := h.o1; have := h.o2; have := h.o3
  exact ⟨h.o1, h.o2, h.o3, (hb.block _ (by omega)).trans h.ck, (hb.block _ (by omega)).trans h.ci, h.i.same (hb.block _ (by omega)), h.o.same (hb.block _ (by omega)), h.bel.trans (hb.mono (by omega))⟩
theorem MSt32.wrI (h : MSt32 w wt pk pi b1 b2 key t1 t2) (hg : wt.grownBy wt' (some b1)) (hi : IsH32 wt' b1 t') : MSt32 w wt' pk pi b1 b2 key t' t2 := by
  have := h.lt; have := h.o1; have := h.o2; have := h.o3
  exact ⟨h.o1, h.o2, h.o3, (hg.block _ (by omega) (by intro e; injection e; omega)).trans h.ck, (hg.block _ (by omega) (by intro e; injection e; omega)).trans h.ci, hi, h.o.same (hg.block _ (by omega) (by intro e; injection e; omega)), h.bel.trans (grown_below hg (by omega) (by omega))⟩
theorem MSt32.wrO (h : MSt32 w wt pk pi b1 b2 key t1 t2) (hg : wt.grownBy wt' (some b2)) (ho : IsH32 wt' b2 t') : MSt32 w wt' pk pi b1 b2 key t1 t' := by
  have := h.lt; have := h.o1; have := h.o2; have := h.o3
  exact ⟨h.o1, h.o2, h.o3, (hg.block _ (by omega) (by intro e; injection e; omega)).trans h.ck, (hg.block _ (by omega) (by intro e; injection e; omega)).trans h.ci, h.i.same (hg.block _ (by omega) (by intro e; injection e; omega)), ho, h.bel.trans (grown_below hg (by omega) (by omega))⟩
theorem MSt32.wrK (h : MSt32 w wt pk pi b1 b2 key t1 t2) (s : ByteArray) : MSt32 w (wt.setCell ⟨pk, 0, none⟩ (.string s)) pk pi b1 b2 s t1 t2 := by
  have := h.lt; have := h.o1; have := h.o2; have := h.o3
  have oth : ∀ k, k ≠ pk → (wt.setCell ⟨pk, 0, none⟩ (.string s)).heap[k]? = wt.heap[k]? := fun k hk => heap_setCell_other wt _ k _ hk
  exact ⟨h.o1, h.o2, h.o3, heap_setCell_same wt pk 0 _ 9 _ h.ck, (oth _ (by omega)).trans h.ci, h.i.same (oth _ (by omega)), h.o.same (oth _ (by omega)), h.bel.setCell (Nat.le_refl _) _⟩
theorem MSt32.cki (h : MSt32 w wt pk pi b1 b2 key t1 t2) : wt.cell? ⟨pk, 0, none⟩ = some (.string key) := cell_of_row _ _ 0 _ _ _ h.ck
theorem MSt32.cii (h : MSt32 w wt pk pi b1 b2 key t1 t2) : wt.cell? ⟨pi, 0, none⟩ = some (.pointer (some ⟨b1, 0, none⟩)) := cell_of_row _ _ 0 _ _ _ h.ci
theorem MSt32.cbl (h : MSt32 w wt pk pi b1 b2 key t1 t2) : wt.cell? ⟨b1, 13, none⟩ = some (.int .i64 64) := by obtain ⟨_, _, _, h, _⟩ := h.i; exact h.kcell rfl
end
theorem length_padded32 (k : List Nat) (x : Nat) : (Sha.padded Sha.k32 k x).length = 64 := by unfold Sha.padded; rw [List.length_map, List.length_range]; rfl
theorem padded_lt32 (k : List Nat) (x : Nat) (hx : x < 256) (hk : ∀ a ∈ k, a < 256) : ∀ a ∈ Sha.padded Sha.k32 k x, a < 256 := by
  intro a ha
  unfold Sha.padded at ha
  obtain ⟨i, _, rfl⟩ := List.mem_map.1 ha
  refine Nat.xor_lt_two_pow (n := 8) ?_ hx
  by_cases h : i < k.length
  · rw [List.getD_eq_getElem?_getD, List.getElem?_eq_getElem h]; exact hk _ (List.getElem_mem h)
  · rw [Sha.getD_out (by omega)]; decide
set_option maxRecDepth 100000 in
set_option maxHeartbeats 400000 in
theorem mac0 (key s : ByteArray) (w : World) (hk : key.size ≤ 576460752303423488) (hs : s.size ≤ 576460752303423000) :
    Calls Try.prog 14 #[.int .i64 0, .string key, .string s] w fun e w' => e = .returned (.tuple #[.string (strOf (Sha.mac Sha.k32 (bs key) (bs s))), .int .i64 0]) ∧ Below w.heap.size w w' := by
  have HK := Lib.hid hk
  have HS := Lib.hid hs
  clear hk hs
  go_enter Try.func14, Try.ntmps14
  go_wp2_with fail
  refine (new0 _).mono ?_
  rintro e w1 ⟨b1, rfl, hb1, hbel1, hge1⟩
  have HB1 := Lib.hid hb1
  clear hb1
  go_wp2_with fail
  refine (new0 _).mono ?_
  rintro e w2 ⟨b2, rfl, hb2, hbel2, hge2⟩
  obtain ⟨pi, hpi⟩ : ∃ p, p = w1.heap.size := ⟨_, rfl⟩
  obtain ⟨pk, hpk⟩ : ∃ p, p = w.heap.size := ⟨_, rfl⟩
  have F : MSt32 w w2 pk pi b1 b2 key [] [] := by
    have hb1 := HB1.out
    have h1 := hb1.lt
    have s1 := hbel1.size
    simp only [World.size_alloc] at hbel1 hge1 hbel2 hge2 s1
    subst hpi hpk
    refine ⟨by omega, h1, by omega, ?_, ?_, ?_, isH32_new hb2, ?_⟩
    · rw [hbel2.block _ (by omega), heap_lt (by omega), hbel1.block _ (by omega)]; exact heap_at rfl
    · rw [hbel2.block _ (by omega)]; exact heap_at rfl
    · exact (isH32_new hb1).same ((hbel2.block _ (by omega)).trans (heap_lt (by omega)))
    · exact ((((Below.refl _ w).alloc (Nat.le_refl _) _).trans (hbel1.mono (by omega))).alloc (by omega) _).trans (hbel2.mono (by omega))
  rw [← hpi, ← hpk]
  have M2 := Lib.hid F
  have HPK := Lib.hid hpk
  clear HB1 hbel1 hge1 hb2 hbel2 hge2 hpi hpk F
  have q0 : ∀ t : Grow w2, t.val.cell? ⟨pk, 0, none⟩ = some (.string key) := fun t => t.cell M2.out.cki
  have q1 : ∀ t : Grow w2, t.val.cell? ⟨pi, 0, none⟩ = some (.pointer (some ⟨b1, 0, none⟩)) := fun t => t.cell M2.out.cii
  have q2 : ∀ t : Grow w2, t.val.cell? ⟨b1, 13, none⟩ = some (.int .i64 64) := fun t => t.cell M2.out.cbl
  by_cases hlt : 64 < key.size
  · go_wp2_with fail
    refine wp_region_fam (by kernel_rfl) (by kernel_rfl) Grow.val (Grow.start w2) ?_
    repeat go_big_quiet_step (fail)
    refine wpQuiet_nil ?_
    intro tt
    have M3 := M2.out.below tt.below
    have f0 := M3.ck
    have f1 := M3.cki
    have M3' := Lib.hid M3
    clear M3 q0 q1 q2
    go_wp2_with fail
    refine (sumK0 key _ HK.out).mono ?_
    rintro e w3 ⟨rfl, hb3⟩
    have M4 := M3'.out.below hb3
    have f2 := M4.cki
    have f3 := frozen_of_row _ _ 0 _ _ M4.ck
    have M4' := Lib.hid M4
    clear M4 hb3 f0 f1 M3' tt
    go_wp2_with fail
    obtain ⟨key', hkey'⟩ : ∃ k, k = strOf (Sha.sum Sha.k32 (bs key)) := ⟨_, rfl⟩
    have hks : bs key' = Sha.short Sha.k32 (bs key) := by
      rw [hkey', bs_strOf _ (Sha.sum_lt _ _)]; unfold Sha.short; rw [if_pos (by rw [length_bs]; exact hlt)]
    have hk64 : key'.size ≤ 64 := by rw [hkey', size_strOf, Sha.length_sum32]; decide
    have M3 : MSt32 w (w3.setCell ⟨pk, 0, none⟩ (.string key')) pk pi b1 b2 key' [] [] := M4'.out.wrK key'
    rw [← hkey']
    obtain ⟨w4, hw4⟩ : ∃ v, v = w3.setCell ⟨pk, 0, none⟩ (.string key') := ⟨_, rfl⟩
    rw [← hw4] at M3 ⊢
    have HKS := Lib.hid hks
    have M3' := Lib.hid M3
    clear M3 hks hkey' hw4 M2 M4' f2 f3
    refine wp_region_fam_tail 3 (by kernel_rfl) (by kernel_rfl) Grow.val (Grow.start w4) ?_
    have r1 : ∀ t : Grow w4, t.val.cell? ⟨pi, 0, none⟩ = some (.pointer (some ⟨b1, 0, none⟩)) := fun t => t.cell M3'.out.cii
    have hc1 : ∀ t : Grow w4, Calls Try.prog 26 #[.int .u8 (54 : Nat), .pointer (some ⟨pi, 0, none⟩), .pointer (some ⟨pk, 0, none⟩)] t.val fun e w' => e = .returned (.string (strOf (Sha.padded Sha.k32 (bs key') 54))) ∧ Below t.val.heap.size t.val w' := fun t => padded32 54 (by decide) _ _ b1 key' _ (M3'.out.below t.below).cii (M3'.out.below t.below).cbl (M3'.out.below t.below).cki hk64
    have HC1 := Lib.hid hc1
    clear hc1
    simp only [List.take_succ_cons, List.take_zero, List.drop_succ_cons, List.drop_zero]
    repeat go_big_quiet_step ((refine Calls.fam_of (HC1.out _) (Grow.more _)))
    refine wpQuiet_nil ?_
    clear r1
    intro tt
    have M4 := M3'.out.below tt.below
    have M4' := Lib.hid M4
    clear M4
    go_wp2_with fail
    have hp54 : bs (strOf (Sha.padded Sha.k32 (bs key') 54)) = Sha.padded Sha.k32 (bs key') 54 := bs_strOf _ (padded_lt32 _ _ (by decide) fun a ha => bs_lt _ a ha)
    have hp92 : bs (strOf (Sha.padded Sha.k32 (bs key') 92)) = Sha.padded Sha.k32 (bs key') 92 := bs_strOf _ (padded_lt32 _ _ (by decide) fun a ha => bs_lt _ a ha)
    refine (write32 b1 [] (strOf (Sha.padded Sha.k32 (bs key') 54)) _ M4'.out.i ?_).mono ?_
    · rw [size_strOf, length_padded32]; simp
    rintro e wI ⟨rfl, hI4, hg4⟩
    rw [hp54, List.nil_append] at hI4
    have M5 := M4'.out.wrI hg4 hI4
    obtain ⟨in1, hin1⟩ : ∃ l, l = Sha.padded Sha.k32 (bs key') 54 := ⟨_, rfl⟩
    have hin1l : in1.length = 64 := by rw [hin1]; exact length_padded32 _ _
    rw [← hin1] at M5
    have M5' := Lib.hid M5
    have HIN1 := Lib.hid hin1
    have HP92 := Lib.hid hp92
    have c1 := M5.cii
    clear M3' M4' HC1 hp54 hp92 hI4 hg4 M5 hin1 tt
    go_wp2_with fail
    refine (write32 b1 in1 s _ M5'.out.i ?_).mono ?_
    · have := HS.out; omega
    rintro e w5 ⟨rfl, hI5, hg5⟩
    have M6 := M5'.out.wrI hg5 hI5
    have M6' := Lib.hid M6
    clear c1 M6 hI5 hg5 M5'
    go_wp2_with fail
    refine (padded32 92 (by decide) _ _ b1 key' _ M6'.out.cii M6'.out.cbl M6'.out.cki hk64).mono ?_
    rintro e w6 ⟨rfl, hb6⟩
    have M7 := M6'.out.below hb6
    have M7' := Lib.hid M7
    clear M7 M6' hb6
    go_wp2_with fail
    refine (write32 b2 [] (strOf (Sha.padded Sha.k32 (bs key') 92)) _ M7'.out.o ?_).mono ?_
    · rw [size_strOf, length_padded32]; simp
    rintro e w7 ⟨rfl, hO7, hg7⟩
    rw [HP92.out, List.nil_append] at hO7
    have M8 := M7'.out.wrO hg7 hO7
    have M8' := Lib.hid M8
    have c2 := M8.cii
    clear M8 M7' hO7 hg7
    go_wp2_with fail
    refine (sum32 b1 _ _ M8'.out.i ?_).mono ?_
    · rw [List.length_append, hin1l, length_bs]; have := HS.out; omega
    rintro e w8 ⟨rfl, hb8⟩
    have M9 := M8'.out.below hb8
    have M9' := Lib.hid M9
    clear M9 hb8 c2 M8'
    go_wp2_with fail
    have hbs9 : bs (strOf (Sha.sum Sha.k32 (in1 ++ bs s))) = Sha.sum Sha.k32 (in1 ++ bs s) := bs_strOf _ (Sha.sum_lt _ _)
    refine (write32 b2 _ (strOf (Sha.sum Sha.k32 (in1 ++ bs s))) _ M9'.out.o ?_).mono ?_
    · rw [size_strOf, length_padded32, Sha.length_sum32]; decide
    rintro e w9 ⟨rfl, hO9, hg9⟩
    rw [hbs9] at hO9
    have M10 := M9'.out.wrO hg9 hO9
    have M10' := Lib.hid M10
    clear M10 hO9 hg9 M9' hbs9
    go_wp2_with fail
    refine (sum32 b2 _ _ M10'.out.o ?_).mono ?_
    · rw [List.length_append, length_padded32, Sha.length_sum32]; decide
    rintro e w10 ⟨rfl, hb10⟩
    have M11 := M10'.out.below hb10
    have M11' := Lib.hid M11
    clear M11 hb10 M10'
    go_wp2_with fail
    go_ret2
    have hmac : Sha.mac Sha.k32 (bs key) (bs s) = Sha.sum Sha.k32 (Sha.padded Sha.k32 (bs key') 92 ++ Sha.sum Sha.k32 (in1 ++ bs s)) := by
      unfold Sha.mac
      rw [← HKS.out, ← HIN1.out]
    rw [hmac]
    refine ⟨rfl, ?_⟩
    · have := M11'.out.bel
      rw [HPK.out] at this
      exact this
  · go_wp2_with fail
    refine wp_region_fam (by kernel_rfl) (by kernel_rfl) Grow.val (Grow.start w2) ?_
    repeat go_big_quiet_step (fail)
    refine wpQuiet_nil ?_
    intro tt
    go_wp2_with fail
    obtain ⟨key', hkey'⟩ : ∃ k : ByteArray, k = key := ⟨_, rfl⟩
    have hks : bs key' = Sha.short Sha.k32 (bs key) := by rw [hkey']; unfold Sha.short; rw [if_neg (by rw [length_bs]; exact hlt)]
    have hk64 : key'.size ≤ 64 := by rw [hkey']; omega
    have M3 : MSt32 w tt.val pk pi b1 b2 key' [] [] := by rw [hkey']; exact M2.out.below (tt.below.mono (Nat.le_refl _))
    obtain ⟨w3, hw3⟩ : ∃ v, v = tt.val := ⟨_, rfl⟩
    rw [← hw3] at M3 ⊢
    have HKS := Lib.hid hks
    have M3' := Lib.hid M3
    have HKK := Lib.hid hkey'
    clear q0 q1 q2 M3 hks hkey' hw3 M2 tt
    -- TAIL
    refine wp_region_fam_tail 3 (by kernel_rfl) (by kernel_rfl) Grow.val (Grow.start w3) ?_
    have r1 : ∀ t : Grow w3, t.val.cell? ⟨pi, 0, none⟩ = some (.pointer (some ⟨b1, 0, none⟩)) := fun t => t.cell M3'.out.cii
    have hc1 : ∀ t : Grow w3, Calls Try.prog 26 #[.int .u8 (54 : Nat), .pointer (some ⟨pi, 0, none⟩), .pointer (some ⟨pk, 0, none⟩)] t.val fun e w' => e = .returned (.string (strOf (Sha.padded Sha.k32 (bs key') 54))) ∧ Below t.val.heap.size t.val w' := fun t => padded32 54 (by decide) _ _ b1 key' _ (M3'.out.below t.below).cii (M3'.out.below t.below).cbl (M3'.out.below t.below).cki hk64
    have HC1 := Lib.hid hc1
    clear hc1
    simp only [List.take_succ_cons, List.take_zero, List.drop_succ_cons, List.drop_zero]
    repeat go_big_quiet_step ((refine Calls.fam_of (HC1.out _) (Grow.more _)))
    refine wpQuiet_nil ?_
    clear r1
    intro tt
    have M4 := M3'.out.below tt.below
    have M4' := Lib.hid M4
    clear M4
    go_wp2_with fail
    have hp54 : bs (strOf (Sha.padded Sha.k32 (bs key') 54)) = Sha.padded Sha.k32 (bs key') 54 := bs_strOf _ (padded_lt32 _ _ (by decide) fun a ha => bs_lt _ a ha)
    have hp92 : bs (strOf (Sha.padded Sha.k32 (bs key') 92)) = Sha.padded Sha.k32 (bs key') 92 := bs_strOf _ (padded_lt32 _ _ (by decide) fun a ha => bs_lt _ a ha)
    refine (write32 b1 [] (strOf (Sha.padded Sha.k32 (bs key') 54)) _ M4'.out.i ?_).mono ?_
    · rw [size_strOf, length_padded32]; simp
    rintro e w4 ⟨rfl, hI4, hg4⟩
    rw [hp54, List.nil_append] at hI4
    have M5 := M4'.out.wrI hg4 hI4
    obtain ⟨in1, hin1⟩ : ∃ l, l = Sha.padded Sha.k32 (bs key') 54 := ⟨_, rfl⟩
    have hin1l : in1.length = 64 := by rw [hin1]; exact length_padded32 _ _
    rw [← hin1] at M5
    have M5' := Lib.hid M5
    have HIN1 := Lib.hid hin1
    have HP92 := Lib.hid hp92
    have c1 := M5.cii
    clear M3' M4' HC1 hp54 hp92 hI4 hg4 M5 hin1 tt
    go_wp2_with fail
    refine (write32 b1 in1 s _ M5'.out.i ?_).mono ?_
    · have := HS.out; omega
    rintro e w5 ⟨rfl, hI5, hg5⟩
    have M6 := M5'.out.wrI hg5 hI5
    have M6' := Lib.hid M6
    clear c1 M6 hI5 hg5 M5'
    go_wp2_with fail
    refine (padded32 92 (by decide) _ _ b1 key' _ M6'.out.cii M6'.out.cbl M6'.out.cki hk64).mono ?_
    rintro e w6 ⟨rfl, hb6⟩
    have M7 := M6'.out.below hb6
    have M7' := Lib.hid M7
    clear M7 M6' hb6
    go_wp2_with fail
    refine (write32 b2 [] (strOf (Sha.padded Sha.k32 (bs key') 92)) _ M7'.out.o ?_).mono ?_
    · rw [size_strOf, length_padded32]; simp
    rintro e w7 ⟨rfl, hO7, hg7⟩
    rw [HP92.out, List.nil_append] at hO7
    have M8 := M7'.out.wrO hg7 hO7
    have M8' := Lib.hid M8
    have c2 := M8.cii
    clear M8 M7' hO7 hg7
    go_wp2_with fail
    refine (sum32 b1 _ _ M8'.out.i ?_).mono ?_
    · rw [List.length_append, hin1l, length_bs]; have := HS.out; omega
    rintro e w8 ⟨rfl, hb8⟩
    have M9 := M8'.out.below hb8
    have M9' := Lib.hid M9
    clear M9 hb8 c2 M8'
    go_wp2_with fail
    have hbs9 : bs (strOf (Sha.sum Sha.k32 (in1 ++ bs s))) = Sha.sum Sha.k32 (in1 ++ bs s) := bs_strOf _ (Sha.sum_lt _ _)
    refine (write32 b2 _ (strOf (Sha.sum Sha.k32 (in1 ++ bs s))) _ M9'.out.o ?_).mono ?_
    · rw [size_strOf, length_padded32, Sha.length_sum32]; decide
    rintro e w9 ⟨rfl, hO9, hg9⟩
    rw [hbs9] at hO9
    have M10 := M9'.out.wrO hg9 hO9
    have M10' := Lib.hid M10
    clear M10 hO9 hg9 M9' hbs9
    go_wp2_with fail
    refine (sum32 b2 _ _ M10'.out.o ?_).mono ?_
    · rw [List.length_append, length_padded32, Sha.length_sum32]; decide
    rintro e w10 ⟨rfl, hb10⟩
    have M11 := M10'.out.below hb10
    have M11' := Lib.hid M11
    clear M11 hb10 M10'
    go_wp2_with fail
    go_ret2
    have hmac : Sha.mac Sha.k32 (bs key) (bs s) = Sha.sum Sha.k32 (Sha.padded Sha.k32 (bs key') 92 ++ Sha.sum Sha.k32 (in1 ++ bs s)) := by
      unfold Sha.mac
      rw [← HKS.out, ← HIN1.out]
    rw [hmac]
    refine ⟨rfl, ?_⟩
    · have := M11'.out.bel
      rw [HPK.out] at this
      exact this
structure MSt64 (w wt : World) (pk pi b1 b2 : Nat) (key : ByteArray) (t1 t2 : List Nat) : Prop where
  o1 : pk < b1
  o2 : b1 < pi
  o3 : pi < b2
  ck : wt.heap[pk]? = some (.cells #[.string key] 9 (0, 0))
  ci : wt.heap[pi]? = some (.cells #[.pointer (some ⟨b1, 0, none⟩)] 29 (0, 0))
  i : IsH64 wt b1 t1
  o : IsH64 wt b2 t2
  bel : Below pk w wt
section
variable {w wt wt' : World} {pk pi b1 b2 : Nat} {key : ByteArray} {t1 t2 t' : List Nat}
theorem MSt64.lt (h : MSt64 w wt pk pi b1 b2 key t1 t2) : b2 < wt.heap.size := h.o.lt
theorem MSt64.below (h : MSt64 w wt pk pi b1 b2 key t1 t2) (hb : Below wt.heap.size wt wt') : MSt64 w wt' pk pi b1 b2 key t1 t2 := by
  have := h.lt; have := h.o1; have := h.o2; have := h.o3
  exact ⟨h.o1, h.o2, h.o3, (hb.block _ (by omega)).trans h.ck, (hb.block _ (by omega)).trans h.ci, h.i.same (hb.block _ (by omega)), h.o.same (hb.block _ (by omega)), h.bel.trans (hb.mono (by omega))⟩
theorem MSt64.wrI (h : MSt64 w wt pk pi b1 b2 key t1 t2) (hg : wt.grownBy wt' (some b1)) (hi : IsH64 wt' b1 t') : MSt64 w wt' pk pi b1 b2 key t' t2 := by
  have := h.lt; have := h.o1; have := h.o2; have := h.o3
  exact ⟨h.o1, h.o2, h.o3, (hg.block _ (by omega) (by intro e; injection e; omega)).trans h.ck, (hg.block _ (by omega) (by intro e; injection e; omega)).trans h.ci, hi, h.o.same (hg.block _ (by omega) (by intro e; injection e; omega)), h.bel.trans (grown_below hg (by omega) (by omega))⟩
theorem MSt64.wrO (h : MSt64 w wt pk pi b1 b2 key t1 t2) (hg : wt.grownBy wt' (some b2)) (ho : IsH64 wt' b2 t') : MSt64 w wt' pk pi b1 b2 key t1 t' := by
  have := h.lt; have := h.o1; have := h.o2; have := h.o3
  exact ⟨h.o1, h.o2, h.o3, (hg.block _ (by omega) (by intro e; injection e; omega)).trans h.ck, (hg.block _ (by omega) (by intro e; injection e; omega)).trans h.ci, h.i.same (hg.block _ (by omega) (by intro e; injection e; omega)), ho, h.bel.trans (grown_below hg (by omega) (by omega))⟩
theorem MSt64.wrK (h : MSt64 w wt pk pi b1 b2 key t1 t2) (s : ByteArray) : MSt64 w (wt.setCell ⟨pk, 0, none⟩ (.string s)) pk pi b1 b2 s t1 t2 := by
  have := h.lt; have := h.o1; have := h.o2; have := h.o3
  have oth : ∀ k, k ≠ pk → (wt.setCell ⟨pk, 0, none⟩ (.string s)).heap[k]? = wt.heap[k]? := fun k hk => heap_setCell_other wt _ k _ hk
  exact ⟨h.o1, h.o2, h.o3, heap_setCell_same wt pk 0 _ 9 _ h.ck, (oth _ (by omega)).trans h.ci, h.i.same (oth _ (by omega)), h.o.same (oth _ (by omega)), h.bel.setCell (Nat.le_refl _) _⟩
theorem MSt64.cki (h : MSt64 w wt pk pi b1 b2 key t1 t2) : wt.cell? ⟨pk, 0, none⟩ = some (.string key) := cell_of_row _ _ 0 _ _ _ h.ck
theorem MSt64.cii (h : MSt64 w wt pk pi b1 b2 key t1 t2) : wt.cell? ⟨pi, 0, none⟩ = some (.pointer (some ⟨b1, 0, none⟩)) := cell_of_row _ _ 0 _ _ _ h.ci
theorem MSt64.cbl (h : MSt64 w wt pk pi b1 b2 key t1 t2) : wt.cell? ⟨b1, 13, none⟩ = some (.int .i64 128) := by obtain ⟨_, _, _, h, _⟩ := h.i; exact h.kcell rfl
end
theorem length_padded64 (k : List Nat) (x : Nat) : (Sha.padded Sha.k64 k x).length = 128 := by unfold Sha.padded; rw [List.length_map, List.length_range]; rfl
theorem padded_lt64 (k : List Nat) (x : Nat) (hx : x < 256) (hk : ∀ a ∈ k, a < 256) : ∀ a ∈ Sha.padded Sha.k64 k x, a < 256 := by
  intro a ha
  unfold Sha.padded at ha
  obtain ⟨i, _, rfl⟩ := List.mem_map.1 ha
  refine Nat.xor_lt_two_pow (n := 8) ?_ hx
  by_cases h : i < k.length
  · rw [List.getD_eq_getElem?_getD, List.getElem?_eq_getElem h]; exact hk _ (List.getElem_mem h)
  · rw [Sha.getD_out (by omega)]; decide
set_option maxRecDepth 100000 in
set_option maxHeartbeats 400000 in
theorem mac1 (key s : ByteArray) (w : World) (hk : key.size ≤ 576460752303423488) (hs : s.size ≤ 576460752303423000) :
    Calls Try.prog 14 #[.int .i64 1, .string key, .string s] w fun e w' => e = .returned (.tuple #[.string (strOf (Sha.mac Sha.k64 (bs key) (bs s))), .int .i64 0]) ∧ Below w.heap.size w w' := by
  have HK := Lib.hid hk
  have HS := Lib.hid hs
  clear hk hs
  go_enter Try.func14, Try.ntmps14
  go_wp2_with fail
  refine (new1 _).mono ?_
  rintro e w1 ⟨b1, rfl, hb1, hbel1, hge1⟩
  have HB1 := Lib.hid hb1
  clear hb1
  go_wp2_with fail
  refine (new1 _).mono ?_
  rintro e w2 ⟨b2, rfl, hb2, hbel2, hge2⟩
  obtain ⟨pi, hpi⟩ : ∃ p, p = w1.heap.size := ⟨_, rfl⟩
  obtain ⟨pk, hpk⟩ : ∃ p, p = w.heap.size := ⟨_, rfl⟩
  have F : MSt64 w w2 pk pi b1 b2 key [] [] := by
    have hb1 := HB1.out
    have h1 := hb1.lt
    have s1 := hbel1.size
    simp only [World.size_alloc] at hbel1 hge1 hbel2 hge2 s1
    subst hpi hpk
    refine ⟨by omega, h1, by omega, ?_, ?_, ?_, isH64_new hb2, ?_⟩
    · rw [hbel2.block _ (by omega), heap_lt (by omega), hbel1.block _ (by omega)]; exact heap_at rfl
    · rw [hbel2.block _ (by omega)]; exact heap_at rfl
    · exact (isH64_new hb1).same ((hbel2.block _ (by omega)).trans (heap_lt (by omega)))
    · exact ((((Below.refl _ w).alloc (Nat.le_refl _) _).trans (hbel1.mono (by omega))).alloc (by omega) _).trans (hbel2.mono (by omega))
  rw [← hpi, ← hpk]
  have M2 := Lib.hid F
  have HPK := Lib.hid hpk
  clear HB1 hbel1 hge1 hb2 hbel2 hge2 hpi hpk F
  have q0 : ∀ t : Grow w2, t.val.cell? ⟨pk, 0, none⟩ = some (.string key) := fun t => t.cell M2.out.cki
  have q1 : ∀ t : Grow w2, t.val.cell? ⟨pi, 0, none⟩ = some (.pointer (some ⟨b1, 0, none⟩)) := fun t => t.cell M2.out.cii
  have q2 : ∀ t : Grow w2, t.val.cell? ⟨b1, 13, none⟩ = some (.int .i64 128) := fun t => t.cell M2.out.cbl
  by_cases hlt : 128 < key.size
  · go_wp2_with fail
    refine wp_region_fam (by kernel_rfl) (by kernel_rfl) Grow.val (Grow.start w2) ?_
    repeat go_big_quiet_step (fail)
    refine wpQuiet_nil ?_
    intro tt
    have M3 := M2.out.below tt.below
    have f0 := M3.ck
    have f1 := M3.cki
    have M3' := Lib.hid M3
    clear M3 q0 q1 q2
    go_wp2_with fail
    refine (sumK1 key _ HK.out).mono ?_
    rintro e w3 ⟨rfl, hb3⟩
    have M4 := M3'.out.below hb3
    have f2 := M4.cki
    have f3 := frozen_of_row _ _ 0 _ _ M4.ck
    have M4' := Lib.hid M4
    clear M4 hb3 f0 f1 M3' tt
    go_wp2_with fail
    obtain ⟨key', hkey'⟩ : ∃ k, k = strOf (Sha.sum Sha.k64 (bs key)) := ⟨_, rfl⟩
    have hks : bs key' = Sha.short Sha.k64 (bs key) := by
      rw [hkey', bs_strOf _ (Sha.sum_lt _ _)]; unfold Sha.short; rw [if_pos (by rw [length_bs]; exact hlt)]
    have hk64 : key'.size ≤ 128 := by rw [hkey', size_strOf, Sha.length_sum64]; decide
    have M3 : MSt64 w (w3.setCell ⟨pk, 0, none⟩ (.string key')) pk pi b1 b2 key' [] [] := M4'.out.wrK key'
    rw [← hkey']
    obtain ⟨w4, hw4⟩ : ∃ v, v = w3.setCell ⟨pk, 0, none⟩ (.string key') := ⟨_, rfl⟩
    rw [← hw4] at M3 ⊢
    have HKS := Lib.hid hks
    have M3' := Lib.hid M3
    clear M3 hks hkey' hw4 M2 M4' f2 f3
    refine wp_region_fam_tail 3 (by kernel_rfl) (by kernel_rfl) Grow.val (Grow.start w4) ?_
    have r1 : ∀ t : Grow w4, t.val.cell? ⟨pi, 0, none⟩ = some (.pointer (some ⟨b1, 0, none⟩)) := fun t => t.cell M3'.out.cii
    have hc1 : ∀ t : Grow w4, Calls Try.prog 26 #[.int .u8 (54 : Nat), .pointer (some ⟨pi, 0, none⟩), .pointer (some ⟨pk, 0, none⟩)] t.val fun e w' => e = .returned (.string (strOf (Sha.padded Sha.k64 (bs key') 54))) ∧ Below t.val.heap.size t.val w' := fun t => padded64 54 (by decide) _ _ b1 key' _ (M3'.out.below t.below).cii (M3'.out.below t.below).cbl (M3'.out.below t.below).cki hk64
    have HC1 := Lib.hid hc1
    clear hc1
    simp only [List.take_succ_cons, List.take_zero, List.drop_succ_cons, List.drop_zero]
    repeat go_big_quiet_step ((refine Calls.fam_of (HC1.out _) (Grow.more _)))
    refine wpQuiet_nil ?_
    clear r1
    intro tt
    have M4 := M3'.out.below tt.below
    have M4' := Lib.hid M4
    clear M4
    go_wp2_with fail
    have hp54 : bs (strOf (Sha.padded Sha.k64 (bs key') 54)) = Sha.padded Sha.k64 (bs key') 54 := bs_strOf _ (padded_lt64 _ _ (by decide) fun a ha => bs_lt _ a ha)
    have hp92 : bs (strOf (Sha.padded Sha.k64 (bs key') 92)) = Sha.padded Sha.k64 (bs key') 92 := bs_strOf _ (padded_lt64 _ _ (by decide) fun a ha => bs_lt _ a ha)
    refine (write64 b1 [] (strOf (Sha.padded Sha.k64 (bs key') 54)) _ M4'.out.i ?_).mono ?_
    · rw [size_strOf, length_padded64]; simp
    rintro e wI ⟨rfl, hI4, hg4⟩
    rw [hp54, List.nil_append] at hI4
    have M5 := M4'.out.wrI hg4 hI4
    obtain ⟨in1, hin1⟩ : ∃ l, l = Sha.padded Sha.k64 (bs key') 54 := ⟨_, rfl⟩
    have hin1l : in1.length = 128 := by rw [hin1]; exact length_padded64 _ _
    rw [← hin1] at M5
    have M5' := Lib.hid M5
    have HIN1 := Lib.hid hin1
    have HP92 := Lib.hid hp92
    have c1 := M5.cii
    clear M3' M4' HC1 hp54 hp92 hI4 hg4 M5 hin1 tt
    go_wp2_with fail
    refine (write64 b1 in1 s _ M5'.out.i ?_).mono ?_
    · have := HS.out; omega
    rintro e w5 ⟨rfl, hI5, hg5⟩
    have M6 := M5'.out.wrI hg5 hI5
    have M6' := Lib.hid M6
    clear c1 M6 hI5 hg5 M5'
    go_wp2_with fail
    refine (padded64 92 (by decide) _ _ b1 key' _ M6'.out.cii M6'.out.cbl M6'.out.cki hk64).mono ?_
    rintro e w6 ⟨rfl, hb6⟩
    have M7 := M6'.out.below hb6
    have M7' := Lib.hid M7
    clear M7 M6' hb6
    go_wp2_with fail
    refine (write64 b2 [] (strOf (Sha.padded Sha.k64 (bs key') 92)) _ M7'.out.o ?_).mono ?_
    · rw [size_strOf, length_padded64]; simp
    rintro e w7 ⟨rfl, hO7, hg7⟩
    rw [HP92.out, List.nil_append] at hO7
    have M8 := M7'.out.wrO hg7 hO7
    have M8' := Lib.hid M8
    have c2 := M8.cii
    clear M8 M7' hO7 hg7
    go_wp2_with fail
    refine (sum64 b1 _ _ M8'.out.i ?_).mono ?_
    · rw [List.length_append, hin1l, length_bs]; have := HS.out; omega
    rintro e w8 ⟨rfl, hb8⟩
    have M9 := M8'.out.below hb8
    have M9' := Lib.hid M9
    clear M9 hb8 c2 M8'
    go_wp2_with fail
    have hbs9 : bs (strOf (Sha.sum Sha.k64 (in1 ++ bs s))) = Sha.sum Sha.k64 (in1 ++ bs s) := bs_strOf _ (Sha.sum_lt _ _)
    refine (write64 b2 _ (strOf (Sha.sum Sha.k64 (in1 ++ bs s))) _ M9'.out.o ?_).mono ?_
    · rw [size_strOf, length_padded64, Sha.length_sum64]; decide
    rintro e w9 ⟨rfl, hO9, hg9⟩
    rw [hbs9] at hO9
    have M10 := M9'.out.wrO hg9 hO9
    have M10' := Lib.hid M10
    clear M10 hO9 hg9 M9' hbs9
    go_wp2_with fail
    refine (sum64 b2 _ _ M10'.out.o ?_).mono ?_
    · rw [List.length_append, length_padded64, Sha.length_sum64]; decide
    rintro e w10 ⟨rfl, hb10⟩
    have M11 := M10'.out.below hb10
    have M11' := Lib.hid M11
    clear M11 hb10 M10'
    go_wp2_with fail
    go_ret2
    have hmac : Sha.mac Sha.k64 (bs key) (bs s) = Sha.sum Sha.k64 (Sha.padded Sha.k64 (bs key') 92 ++ Sha.sum Sha.k64 (in1 ++ bs s)) := by
      unfold Sha.mac
      rw [← HKS.out, ← HIN1.out]
    rw [hmac]
    refine ⟨rfl, ?_⟩
    · have := M11'.out.bel
      rw [HPK.out] at this
      exact this
  · go_wp2_with fail
    refine wp_region_fam (by kernel_rfl) (by kernel_rfl) Grow.val (Grow.start w2) ?_
    repeat go_big_quiet_step (fail)
    refine wpQuiet_nil ?_
    intro tt
    go_wp2_with fail
    obtain ⟨key', hkey'⟩ : ∃ k : ByteArray, k = key := ⟨_, rfl⟩
    have hks : bs key' = Sha.short Sha.k64 (bs key) := by rw [hkey']; unfold Sha.short; rw [if_neg (by rw [length_bs]; exact hlt)]
    have hk64 : key'.size ≤ 128 := by rw [hkey']; omega
    have M3 : MSt64 w tt.val pk pi b1 b2 key' [] [] := by rw [hkey']; exact M2.out.below (tt.below.mono (Nat.le_refl _))
    obtain ⟨w3, hw3⟩ : ∃ v, v = tt.val := ⟨_, rfl⟩
    rw [← hw3] at M3 ⊢
    have HKS := Lib.hid hks
    have M3' := Lib.hid M3
    have HKK := Lib.hid hkey'
    clear q0 q1 q2 M3 hks hkey' hw3 M2 tt
    -- TAIL
    refine wp_region_fam_tail 3 (by kernel_rfl) (by kernel_rfl) Grow.val (Grow.start w3) ?_
    have r1 : ∀ t : Grow w3, t.val.cell? ⟨pi, 0, none⟩ = some (.pointer (some ⟨b1, 0, none⟩)) := fun t => t.cell M3'.out.cii
    have hc1 : ∀ t : Grow w3, Calls Try.prog 26 #[.int .u8 (54 : Nat), .pointer (some ⟨pi, 0, none⟩), .pointer (some ⟨pk, 0, none⟩)] t.val fun e w' => e = .returned (.string (strOf (Sha.padded Sha.k64 (bs key') 54))) ∧ Below t.val.heap.size t.val w' := fun t => padded64 54 (by decide) _ _ b1 key' _ (M3'.out.below t.below).cii (M3'.out.below t.below).cbl (M3'.out.below t.below).cki hk64
    have HC1 := Lib.hid hc1
    clear hc1
    simp only [List.take_succ_cons, List.take_zero, List.drop_succ_cons, List.drop_zero]
    repeat go_big_quiet_step ((refine Calls.fam_of (HC1.out _) (Grow.more _)))
    refine wpQuiet_nil ?_
    clear r1
    intro tt
    have M4 := M3'.out.below tt.below
    have M4' := Lib.hid M4
    clear M4
    go_wp2_with fail
    have hp54 : bs (strOf (Sha.padded Sha.k64 (bs key') 54)) = Sha.padded Sha.k64 (bs key') 54 := bs_strOf _ (padded_lt64 _ _ (by decide) fun a ha => bs_lt _ a ha)
    have hp92 : bs (strOf (Sha.padded Sha.k64 (bs key') 92)) = Sha.padded Sha.k64 (bs key') 92 := bs_strOf _ (padded_lt64 _ _ (by decide) fun a ha => bs_lt _ a ha)
    refine (write64 b1 [] (strOf (Sha.padded Sha.k64 (bs key') 54)) _ M4'.out.i ?_).mono ?_
    · rw [size_strOf, length_padded64]; simp
    rintro e w4 ⟨rfl, hI4, hg4⟩
    rw [hp54, List.nil_append] at hI4
    have M5 := M4'.out.wrI hg4 hI4
    obtain ⟨in1, hin1⟩ : ∃ l, l = Sha.padded Sha.k64 (bs key') 54 := ⟨_, rfl⟩
    have hin1l : in1.length = 128 := by rw [hin1]; exact length_padded64 _ _
    rw [← hin1] at M5
    have M5' := Lib.hid M5
    have HIN1 := Lib.hid hin1
    have HP92 := Lib.hid hp92
    have c1 := M5.cii
    clear M3' M4' HC1 hp54 hp92 hI4 hg4 M5 hin1 tt
    go_wp2_with fail
    refine (write64 b1 in1 s _ M5'.out.i ?_).mono ?_
    · have := HS.out; omega
    rintro e w5 ⟨rfl, hI5, hg5⟩
    have M6 := M5'.out.wrI hg5 hI5
    have M6' := Lib.hid M6
    clear c1 M6 hI5 hg5 M5'
    go_wp2_with fail
    refine (padded64 92 (by decide) _ _ b1 key' _ M6'.out.cii M6'.out.cbl M6'.out.cki hk64).mono ?_
    rintro e w6 ⟨rfl, hb6⟩
    have M7 := M6'.out.below hb6
    have M7' := Lib.hid M7
    clear M7 M6' hb6
    go_wp2_with fail
    refine (write64 b2 [] (strOf (Sha.padded Sha.k64 (bs key') 92)) _ M7'.out.o ?_).mono ?_
    · rw [size_strOf, length_padded64]; simp
    rintro e w7 ⟨rfl, hO7, hg7⟩
    rw [HP92.out, List.nil_append] at hO7
    have M8 := M7'.out.wrO hg7 hO7
    have M8' := Lib.hid M8
    have c2 := M8.cii
    clear M8 M7' hO7 hg7
    go_wp2_with fail
    refine (sum64 b1 _ _ M8'.out.i ?_).mono ?_
    · rw [List.length_append, hin1l, length_bs]; have := HS.out; omega
    rintro e w8 ⟨rfl, hb8⟩
    have M9 := M8'.out.below hb8
    have M9' := Lib.hid M9
    clear M9 hb8 c2 M8'
    go_wp2_with fail
    have hbs9 : bs (strOf (Sha.sum Sha.k64 (in1 ++ bs s))) = Sha.sum Sha.k64 (in1 ++ bs s) := bs_strOf _ (Sha.sum_lt _ _)
    refine (write64 b2 _ (strOf (Sha.sum Sha.k64 (in1 ++ bs s))) _ M9'.out.o ?_).mono ?_
    · rw [size_strOf, length_padded64, Sha.length_sum64]; decide
    rintro e w9 ⟨rfl, hO9, hg9⟩
    rw [hbs9] at hO9
    have M10 := M9'.out.wrO hg9 hO9
    have M10' := Lib.hid M10
    clear M10 hO9 hg9 M9' hbs9
    go_wp2_with fail
    refine (sum64 b2 _ _ M10'.out.o ?_).mono ?_
    · rw [List.length_append, length_padded64, Sha.length_sum64]; decide
    rintro e w10 ⟨rfl, hb10⟩
    have M11 := M10'.out.below hb10
    have M11' := Lib.hid M11
    clear M11 hb10 M10'
    go_wp2_with fail
    go_ret2
    have hmac : Sha.mac Sha.k64 (bs key) (bs s) = Sha.sum Sha.k64 (Sha.padded Sha.k64 (bs key') 92 ++ Sha.sum Sha.k64 (in1 ++ bs s)) := by
      unfold Sha.mac
      rw [← HKS.out, ← HIN1.out]
    rw [hmac]
    refine ⟨rfl, ?_⟩
    · have := M11'.out.bel
      rw [HPK.out] at this
      exact this

set_option maxHeartbeats 400000 in
theorem macNo (k : Int) (h0 : k ≠ 0) (h1 : k ≠ 1) (key s : ByteArray) (w : World) :
    Calls Try.prog 14 #[.int .i64 k, .string key, .string s] w fun e w' => e = .returned (.tuple #[.string ⟨#[]⟩, .int .i64 20]) ∧ Below w.heap.size w w' := by
  have H0 := Lib.hid h0
  have H1 := Lib.hid h1
  clear h0 h1
  go_enter Try.func14, Try.ntmps14
  go_wp2_with fail
  refine (newNo k H0.out H1.out _).mono ?_
  rintro e w1 ⟨rfl, rfl⟩
  go_wp2_with fail
  refine (newNo k H0.out H1.out _).mono ?_
  rintro e w1 ⟨rfl, rfl⟩
  go_wp2_with fail
  go_ret2
  exact ⟨rfl, ((Below.refl _ w).alloc (Nat.le_refl _) _).alloc (by simp) _⟩
set_option maxHeartbeats 400000 in
theorem mac256W (key s : ByteArray) (w : World) (hk : key.size ≤ 576460752303423488) (hs : s.size ≤ 576460752303423000) :
    Calls Try.prog 21 #[.string key, .string s] w fun e w' => e = .returned (.string (strOf (Sha.mac Sha.k32 (bs key) (bs s)))) ∧ Below w.heap.size w w' := by
  go_enter Try.func21, Try.ntmps21
  go_wp2_with fail
  refine (mac0 key s _ hk hs).mono ?_
  rintro e w1 ⟨rfl, hb⟩
  go_wp2_with fail
  go_ret
  exact ⟨rfl, hb⟩
end Go.Proofs.Ytjlhckgokdjajaa
