/- The program's number and Record: a record's bytes.
   The program's of and Whole: what stands whole at a place.
   The program's Whole. -/
import Derived.Test.YtilpbjcbffbjeaaGreatDoorPkE
import Derived.Test.YtilpbjcbffbjeaaGreatDoorPkA
import Derived.IntWalk
import Derived.StillTailTactics
namespace Go.Proofs.YtilpbjcbffbjeaaGreatDoor
set_option linter.unusedVariables false
set_option maxRecDepth 100000
open Go.RowKit
theorem infoB : (Tryz.prog.info? 5).map (fun i => (i.zero, i.size, i.bytes)) = some (some (.int .u8 0), 1, 1) := by kernel_rfl
theorem shrN (x n : Nat) : (x : Int) / 2 ^ n = ((x / 2 ^ n : Nat) : Int) := by simp
set_option maxHeartbeats 1000000 in
theorem numberW {base : Nat} (v : Value) (l : List Nat) (w : World) (hown : Owns w base 5 v l) (n k : Nat) (hn : n < 9223372036854775808) (hk : k ≤ 8) (hl : l.length ≤ 1048576) (hb : base ≤ w.heap.size) :
    Calls Tryz.prog 92 #[v, .int .i64 (n : Nat), .int .i64 (k : Nat)] w fun e w' => ∃ v', e = .returned v' ∧ Owns w' base 5 v' (l ++ num n k) ∧ Below base w w' := by
  obtain ⟨p0, c0, rfl⟩ := hown.shape
  have HO := Lib.hid hown
  have HBASE := Lib.hid hb
  clear hown hb
  go_enter Tryz.func92, Tryz.ntmps92
  go_wp2_with fail
  go_loopw [0, 7] (fun v0 v7 wr => ∃ (i : Nat) (l' : List Nat), i ≤ k ∧ v7 = .int .i64 ((i : Int) - 1) ∧ Owns wr base 5 v0 l' ∧ l' ++ num n i = l ++ num n k ∧ l'.length ≤ 1048584 ∧ base ≤ wr.heap.size ∧ Below base w wr) (fun _ v _ => (intOf v + 1).toNat)
  case atStart => exact ⟨k, l, Nat.le_refl _, rfl, HO.out, rfl, by omega, HBASE.out, Below.refl _ _⟩
  case round =>
    obtain ⟨i, l', hi, rfl, ho, he, hl', hs, hb⟩ := hrel
    obtain ⟨p1, c1, rfl⟩ := ho.shape
    have HO := Lib.hid ho
    have HB := Lib.hid hb
    have HS := Lib.hid hs
    have HE := Lib.hid he
    have HL := Lib.hid hl'
    have hlen : l'.length + i = l.length + k := by have := congrArg List.length he; rw [List.length_append, List.length_append, length_num, length_num] at this; exact this
    have HLN := Lib.hid hlen
    clear ho he hl' hs hb hlen
    rcases i with _ | i
    · have h2 := HE.out
      rw [show num n 0 = [] from rfl, List.append_nil] at h2
      subst h2
      clear HE HLN HL
      go_wp2_with fail
      go_ret
      exact ⟨_, rfl, HO.out, HB.out⟩
    · have e1 : ((i + 1 : Nat) : Int) - 1 = (i : Int) := by omega
      rw [e1]
      obtain ⟨c, hc⟩ : ∃ c, c = n / 256 ^ i % 256 := ⟨_, rfl⟩
      have hc256 : c < 256 := by omega
      have hq : (n : Int) / 2 ^ (8 * i) % 256 = (c : Int) := by
        rw [shrN, hc, show 256 ^ i = 2 ^ (8 * i) by rw [Nat.pow_mul]]; omega
      obtain ⟨q, hqd⟩ : ∃ q, q = n / 2 ^ (8 * i) := ⟨_, rfl⟩
      have hqn : q ≤ n := by rw [hqd]; exact Nat.div_le_self _ _
      have hqq : (n : Int) / 2 ^ (8 * i) = (q : Int) := by rw [hqd, shrN]
      rw [hqq] at hq
      have HC := Lib.hid hc
      clear hc hqd e1
      go_wp2_with (at_builtin; refine wpList_append_bytes rfl _ _ 126 rfl Tryz.underlying126 infoB rfl (HO.out.alloc _) ⟨wr.heap.size, 0, none⟩ 1 1 [c] rfl rfl ?d1 ?d2 ?d3 ?_)
      case d1 => intro k hk; obtain rfl : k = 0 := by omega
                 simp [Addr.add]
      case d2 => have := HL.out; omega
      case d3 => have := HS.out; simp; omega
      intro v' w2 ho2 hg2 _
      have HO2 := Lib.hid ho2
      have HB2 := Lib.hid ((HB.out.alloc HS.out _).grown hg2 (by have := HS.out; simp; omega) (fun k hk => (HO.out.block hk).1))
      have HS2 : Hid (base ≤ w2.heap.size) := Nat.le_trans (Nat.le_trans HS.out (by simp)) hg2.size
      clear ho2 hg2
      go_wp2_with fail
      refine ⟨⟨i, l' ++ [c], by omega, rfl, HO2.out, ?_, by rw [List.length_append, List.length_singleton]; have := HLN.out; omega, HS2.out, HB2.out⟩, by simp [intOf]⟩
      rw [← HE.out, num_succ, HC.out, List.append_assoc]; rfl
set_option maxHeartbeats 1000000 in
theorem recordW (n : Nat) (p : ByteArray) (w : World) (h1 : 1 ≤ n) (h2 : n ≤ 1099511627776) (hp : p.size ≤ 16384) :
    Calls Tryz.prog 61 #[.int .i64 (n : Nat), .string p] w fun e w' => e = .returned (.tuple #[.string (recS n p), .int .i64 0]) ∧ Below w.heap.size w w' := by
  obtain ⟨l1, hl1⟩ : ∃ l, l = [] ++ num p.size 3 := ⟨_, rfl⟩
  obtain ⟨l2, hl2⟩ : ∃ l, l = l1 ++ num n 8 := ⟨_, rfl⟩
  obtain ⟨l3, hl3⟩ : ∃ l, l = l2 ++ bs p := ⟨_, rfl⟩
  obtain ⟨l4, hl4⟩ : ∃ l, l = l3 ++ num n 8 := ⟨_, rfl⟩
  have k1 : l1.length = 3 := by rw [hl1]; rfl
  have k2 : l2.length = 11 := by rw [hl2, List.length_append, k1, length_num]
  have k3 : l3.length = 11 + p.size := by rw [hl3, List.length_append, k2, length_bs]
  have k4 : l4.length = 19 + p.size := by rw [hl4, List.length_append, k3, length_num]; omega
  have K4 : Hid (strOf l4 = recS n p) := by
    unfold Hid recS recL
    rw [hl4, hl3, hl2, hl1, length_bs]; simp only [List.nil_append, List.append_assoc]
  have H1 := Lib.hid (numberW _ [] w (Owns.nil w w.heap.size 5) p.size 3 (by omega) (by omega) (by decide) (Nat.le_refl _))
  rw [← hl1] at H1
  have H2 := Lib.hid (fun v w1 ho hs => numberW (base := w.heap.size) v l1 w1 ho n 8 (by omega) (by omega) (by omega) hs)
  have H3 := Lib.hid (fun v w1 ho hs => numberW (base := w.heap.size) v l3 w1 ho n 8 (by omega) (by omega) (by omega) hs)
  rw [← hl2] at H2
  rw [← hl4] at H3
  have HL3 := Lib.hid hl3
  have K2 := Lib.hid k2
  clear hl1 hl2 hl3 hl4 k1 k2 k3 k4
  obtain ⟨b, hb⟩ : ∃ b, b = w.heap.size := ⟨_, rfl⟩
  rw [← hb] at H1 H2 H3 ⊢
  have HBB := Lib.hid hb
  clear hb
  go_enter Tryz.func61, Tryz.ntmps61
  go_wp2_with fail
  refine H1.out.mono ?_
  rintro e w1 ⟨v1, rfl, ho, hbe⟩
  have HB := Lib.hid hbe
  have HS : Hid (b ≤ w1.heap.size) := by unfold Hid; rw [HBB.out]; exact hbe.size
  obtain ⟨q1, c1, rfl⟩ := ho.shape
  have H2' := Lib.hid (H2.out _ _ ho HS.out)
  clear ho hbe
  go_wp2_with fail
  refine H2'.out.mono ?_
  rintro e w2 ⟨v2, rfl, ho, hbe⟩
  replace HB := Lib.hid (HB.out.trans hbe)
  replace HS : Hid (b ≤ w2.heap.size) := Nat.le_trans HS.out hbe.size
  obtain ⟨q2, c2, rfl⟩ := ho.shape
  have HO := Lib.hid ho
  clear ho hbe H2' H2 H1
  go_wp2_with (at_builtin; refine wpList_append_str rfl _ _ 126 9 rfl Tryz.underlying126 Tryz.underlying9 infoB rfl HO.out p rfl ?d1 HS.out ?_)
  case d1 => have := K2.out; omega
  intro v3 w3 ho hg _
  rw [← HL3.out] at ho
  replace HB := Lib.hid (HB.out.grown hg HS.out (fun k hk => (HO.out.block hk).1))
  replace HS : Hid (b ≤ w3.heap.size) := Nat.le_trans HS.out hg.size
  have H3' := Lib.hid (H3.out _ _ ho HS.out)
  obtain ⟨q3, c3, rfl⟩ := ho.shape
  clear ho hg H3
  go_wp2_with fail
  refine H3'.out.mono ?_
  rintro e w4 ⟨v4, rfl, ho, hbe⟩
  replace HB := Lib.hid (HB.out.trans hbe)
  replace HO := Lib.hid ho
  clear ho hbe H3'
  go_wp2_with (with_reducible refine wpList_owned_string rfl 126 9 _ rfl Tryz.underlying126 Tryz.underlying5 Tryz.underlying9 rfl HO.out ?_)
  rw [K4.out]
  go_wp2_with fail
  go_ret2
  exact ⟨rfl, HB.out⟩
end Go.Proofs.YtilpbjcbffbjeaaGreatDoor
namespace Go.Proofs.YtilpbjcbffbjeaaGreatDoor
set_option linter.unusedVariables false
set_option maxRecDepth 100000
open Go.RowKit
theorem recordBad (n : Int) (p : ByteArray) (w : World) (h : n < 1 ∨ 1099511627776 < n) :
    Calls Tryz.prog 61 #[.int .i64 n, .string p] w fun e w' => e = .returned (.tuple #[.string ⟨#[]⟩, .int .i64 1]) ∧ w = w' := by
  by_cases h1 : n < 1
  · go_enter Tryz.func61, Tryz.ntmps61
    go_wp2_with fail
    go_ret2
    exact ⟨rfl, rfl⟩
  · have h2 : 1099511627776 < n := by omega
    go_enter Tryz.func61, Tryz.ntmps61
    go_wp2_with fail
    go_ret2
    exact ⟨rfl, rfl⟩
theorem recordLong (n : Nat) (p : ByteArray) (w : World) (h1 : 1 ≤ n) (h2 : n ≤ 1099511627776) (hp : 16384 < p.size) :
    Calls Tryz.prog 61 #[.int .i64 (n : Nat), .string p] w fun e w' => e = .returned (.tuple #[.string ⟨#[]⟩, .int .i64 171]) ∧ w = w' := by
  go_enter Tryz.func61, Tryz.ntmps61
  go_wp2_with fail
  go_ret2
  exact ⟨rfl, rfl⟩
theorem or_u64c (x c : Nat) (hx : x < 72057594037927936) (hc : c < 256) : bits .or .u64 ((x : Int) * 256) (c : Int) = ((x * 256 + c : Nat) : Int) := by
  rw [show (x : Int) * 256 = ((x * 256 : Nat) : Int) by omega, or_u64 _ _ (by omega) (by omega), show x * 256 = x <<< 8 by rw [Nat.shiftLeft_eq], ← Nat.shiftLeft_add_eq_or_of_lt (by omega)]
theorem get_bsW (s : ByteArray) (i : Nat) (h : i < s.size) : s[i].toNat = (bs s).getD i 0 := by
  have h2 : i < s.data.toList.length := h
  rw [bs, List.getD_eq_getElem?_getD, List.getElem?_map, List.getElem?_eq_getElem h2]
  rfl
theorem val_take_succ (l : List Nat) (i : Nat) (h : i < l.length) : val (l.take (i + 1)) = val (l.take i) * 256 + l.getD i 0 := by
  rw [take_succ_getD l i 0 h, val, valF_snoc]; rfl
set_option maxHeartbeats 1000000 in
theorem ofW (s : ByteArray) (w : World) (hs : s.size = 8) :
    Calls Tryz.prog 100 #[.string s] w fun e w' => ∃ z, e = .returned (.tuple #[.int .i64 z, .bool (decide (1 ≤ val (bs s) ∧ val (bs s) ≤ 1099511627776))]) ∧ (∀ n : Nat, n ≤ 1099511627776 → (z = n ↔ val (bs s) = n)) ∧ w' = w := by
  have hlt := val_lt (bs s) (bs_lt s)
  rw [length_bs, hs] at hlt
  have HLT := Lib.hid hlt
  have HSS := Lib.hid hs
  have HW : Hid (∀ n : Nat, n ≤ 1099511627776 → (wrap64 (val (bs s) : Nat) = n ↔ val (bs s) = n)) := by
    unfold Hid
    intro n hn
    have h0 : val (bs s) < 18446744073709551616 := HLT.out
    unfold wrap64
    omega
  have hs2 : (s.size : Int) = 8 := by omega
  clear hlt
  go_enter Tryz.func100, Tryz.ntmps100
  go_wp2_with fail
  go_loopw [4, 8] (fun v4 v8 wr => ∃ i : Nat, i ≤ 8 ∧ v8 = .int .i64 (i : Nat) ∧ v4 = .int .u64 (val ((bs s).take i) : Nat) ∧ wr = w) (fun _ v _ => (8 - intOf v).toNat)
  case atStart => exact ⟨0, by omega, rfl, rfl, rfl⟩
  case round =>
    obtain ⟨i, hi, rfl, rfl, rfl⟩ := hrel
    by_cases h8 : i < 8
    · have h8' : i < s.size := by omega
      obtain ⟨x, hx⟩ : ∃ x, x = val ((bs s).take i) := ⟨_, rfl⟩
      obtain ⟨c, hc⟩ : ∃ c, c = s[i].toNat := ⟨_, rfl⟩
      have hxl : x < 72057594037927936 := by
        have := val_lt ((bs s).take i) (fun c hc => bs_lt s c (List.mem_of_mem_take hc))
        rw [← hx, List.length_take, length_bs, Nat.min_eq_left (by omega)] at this
        have : 256 ^ i ≤ 256 ^ 7 := Nat.pow_le_pow_right (by decide) (by omega)
        omega
      have hcl : c < 256 := by rw [hc]; exact UInt8.toNat_lt _
      have HN : Hid (val ((bs s).take (i + 1)) = x * 256 + c) := by
        unfold Hid; rw [val_take_succ _ _ (by rw [length_bs]; omega), hx, hc, get_bsW s i h8']
      have hor := or_u64c x c hxl hcl
      rw [← hx]
      have HX := Lib.hid hx
      clear hx
      go_wp2_with fail
      refine ⟨⟨i + 1, by omega, rfl, ?_, trivial⟩, by simp only [intOf]; omega⟩
      rw [HN.out, ← hc, hor]
    · obtain rfl : i = 8 := by omega
      rw [List.take_of_length_le (by rw [length_bs]; omega)]
      by_cases h1 : 1 ≤ val (bs s)
      · have e1 : Hid (decide (1 ≤ val (bs s) ∧ val (bs s) ≤ 1099511627776) = decide ((val (bs s) : Int) ≤ 1099511627776)) := by unfold Hid; rw [decide_eq_decide]; omega
        go_wp2_with fail
        go_ret2
        exact ⟨_, by rw [e1.out]; rfl, HW.out, rfl⟩
      · have e1 : Hid (decide (1 ≤ val (bs s) ∧ val (bs s) ≤ 1099511627776) = false) := by unfold Hid; rw [decide_eq_false_iff_not]; omega
        go_wp2_with fail
        go_ret2
        exact ⟨(val (bs s) : Nat), by first | (rw [e1.out]; rfl) | rfl, fun n _ => by omega, rfl⟩
end Go.Proofs.YtilpbjcbffbjeaaGreatDoor
namespace Go.Proofs.YtilpbjcbffbjeaaGreatDoor
set_option linter.unusedVariables false
set_option maxRecDepth 100000
open Go.RowKit
theorem results_tmp4 {fn : Func} {t u v x : Tmp} (h : fn.results = #[.tmp t, .tmp u, .tmp v, .tmp x]) (tmps : Array Value) (P : Program) (w : World) :
    (results fn tmps).run P w = .ok (.tuple #[tmps.getD t undef, tmps.getD u undef, tmps.getD v undef, tmps.getD x undef]) w := by
  simp [results, h]
theorem or_i64w (a b : Nat) (ha : a < 2 ^ 40) (hb : b < 2 ^ 40) : bits .or .i64 (a : Int) (b : Int) = ((a ||| b : Nat) : Int) := by
  show IntKind.i64.wrap ((BitVec.ofInt 64 (a : Int) ||| BitVec.ofInt 64 (b : Int)).toNat : Int) = _
  rw [BitVec.toNat_or, toNat_ofInt_nat 64 a (by omega), toNat_ofInt_nat 64 b (by omega)]
  have h := Nat.or_lt_two_pow ha hb
  exact IntWalk.i64_in _ (by omega)
theorem or16w (x y : Nat) (hx : x < 256) (hy : y < 256) : bits .or .i64 ((x : Int) * 65536) ((y : Int) * 256) = ((x * 65536 + y * 256 : Nat) : Int) := by
  rw [show (x : Int) * 65536 = ((x * 65536 : Nat) : Int) by omega, show (y : Int) * 256 = ((y * 256 : Nat) : Int) by omega, or_i64w _ _ (by omega) (by omega), show x * 65536 = x <<< 16 by rw [Nat.shiftLeft_eq], ← Nat.shiftLeft_add_eq_or_of_lt (by omega)]
theorem or8w (x y z : Nat) (hx : x < 256) (hy : y < 256) (hz : z < 256) : bits .or .i64 ((x : Int) * 65536 + (y : Int) * 256) (z : Int) = ((x * 65536 + y * 256 + z : Nat) : Int) := by
  rw [show (x : Int) * 65536 + (y : Int) * 256 = ((x * 65536 + y * 256 : Nat) : Int) by omega, or_i64w _ _ (by omega) (by omega), show x * 65536 + y * 256 = (x * 256 + y) <<< 8 by rw [Nat.shiftLeft_eq]; omega, ← Nat.shiftLeft_add_eq_or_of_lt (by omega)]
theorem val_take3 (l : List Nat) (h : 3 ≤ l.length) : val (l.take 3) = l.getD 0 0 * 65536 + l.getD 1 0 * 256 + l.getD 2 0 := by
  rw [val_take_succ l 2 (by omega), val_take_succ l 1 (by omega), val_take_succ l 0 (by omega)]
  simp [val, valF]
  omega
def wholeAt (s : ByteArray) (at_ : Int) : Option (Nat × List Nat × Nat) :=
  if at_ < 0 ∨ (s.size : Int) < at_ then none else (whole ((bs s).drop at_.toNat)).map fun x => (x.1, x.2, at_.toNat + (19 + x.2.length))
def wholeV : Option (Nat × List Nat × Nat) → Value
  | none => .tuple #[.int .i64 0, .string ⟨#[]⟩, .int .i64 0, .bool false]
  | some (n, p, e) => .tuple #[.int .i64 n, .string (strOf p), .int .i64 e, .bool true]
/-- string(s[i:j]) of loose bytes. -/
theorem convL {w : World} {g cap : Nat} {l : List Nat} {base : Nat} (h : LooseAt w base g cap l) (i n c : Nat) (hi : i + n ≤ l.length) :
    (convert 126 9 (.slice (some ⟨g, i, none⟩) n c)).run Tryz.prog w = .ok (.string (strOf ((l.drop i).take n))) w := by
  have hr := run_convert_bytes_arg (P := Tryz.prog) w 126 5 Tryz.underlying126 Tryz.underlying5 g i n c (((l.drop i).take n).map Int.ofNat) (by simp; omega) (fun j hj => by
    rw [h.cells (i + j) (by omega)]
    simp [List.getElem?_drop, hj, List.getD_eq_getElem?_getD, show i + j < l.length by omega]) 9 Tryz.underlying9
  have e1 : strOfNums (((l.drop i).take n).map Int.ofNat) = strOf ((l.drop i).take n) := by unfold strOfNums strOf; rw [List.map_map]; rfl
  rw [e1] at hr
  exact hr
theorem wholeW1 (s : ByteArray) (a : Int) (w : World) (hs : s.size ≤ 1099511627776) (h : a < 0 ∨ (s.size : Int) < a) :
    Calls Tryz.prog 72 #[.string s, .int .i64 a] w fun e w' => e = .returned (wholeV (wholeAt s a)) ∧ Below w.heap.size w w' := by
  have E : wholeAt s a = none := by unfold wholeAt; rw [if_pos h]
  rw [E]
  unfold wholeV
  rcases h with h | h
  · go_enter Tryz.func72, Tryz.ntmps72
    go_wp2_with fail
    (try simp only [Exit.inBlock, Exit.then]); refine bodyPost_ret (results_tmp4 rfl _ _ _) rfl ?_
    exact ⟨rfl, Below.refl _ _⟩
  · have h1 : ¬ a < 0 := by omega
    go_enter Tryz.func72, Tryz.ntmps72
    go_wp2_with fail
    (try simp only [Exit.inBlock, Exit.then]); refine bodyPost_ret (results_tmp4 rfl _ _ _) rfl ?_
    exact ⟨rfl, Below.refl _ _⟩
set_option maxHeartbeats 2000000 in
theorem wholeW2 (s : ByteArray) (a : Nat) (w : World) (hs : s.size ≤ 1099511627776) (h : a ≤ s.size) :
    Calls Tryz.prog 72 #[.string s, .int .i64 (a : Nat)] w fun e w' => e = .returned (wholeV (wholeAt s (a : Nat))) ∧ Below w.heap.size w w' := by
  have E : wholeAt s (a : Nat) = (whole ((bs s).drop a)).map fun x => (x.1, x.2, a + (19 + x.2.length)) := by
    unfold wholeAt; rw [if_neg (by omega), Int.toNat_natCast]
  rw [E]
  obtain ⟨t, ht⟩ : ∃ t, t = s.extract a s.size := ⟨_, rfl⟩
  have hbt : bs t = (bs s).drop a := by rw [ht, bs_from]
  have htl : t.size = s.size - a := by rw [← length_bs, hbt, List.length_drop, length_bs]
  rw [← hbt]
  by_cases h19 : s.size - a < 19
  · rw [whole_short _ (by rw [length_bs]; omega)]
    unfold wholeV
    dsimp only [Option.map]
    have h1 : ¬ (a : Int) < 0 := by omega
    have h2 : ¬ (s.size : Int) < (a : Int) := by omega
    have h3 : (s.size : Int) - (a : Int) < 19 := by omega
    go_enter Tryz.func72, Tryz.ntmps72
    go_wp2_with fail
    (try simp only [Exit.inBlock, Exit.then]); refine bodyPost_ret (results_tmp4 rfl _ _ _) rfl ?_
    exact ⟨rfl, Below.refl _ _⟩
  have h1 : ¬ (a : Int) < 0 := by omega
  have h2 : ¬ (s.size : Int) < (a : Int) := by omega
  have h3 : ¬ (s.size : Int) - (a : Int) < 19 := by omega
  obtain ⟨x, hx⟩ : ∃ x, x = (bs t).getD 0 0 := ⟨_, rfl⟩
  obtain ⟨y, hy⟩ : ∃ x, x = (bs t).getD 1 0 := ⟨_, rfl⟩
  obtain ⟨z, hz⟩ : ∃ x, x = (bs t).getD 2 0 := ⟨_, rfl⟩
  have glt : ∀ i, (bs t).getD i 0 < 256 := fun i => by
    rw [List.getD_eq_getElem?_getD]
    rcases Nat.lt_or_ge i (bs t).length with h | h
    · rw [List.getElem?_eq_getElem h]; exact bs_lt t _ (List.getElem_mem _)
    · rw [List.getElem?_eq_none h]; decide
  have hx2 : x < 256 := hx ▸ glt 0
  have hy2 : y < 256 := hy ▸ glt 1
  have hz2 : z < 256 := hz ▸ glt 2
  have o1 := or16w x y hx2 hy2
  have o2 := or8w x y z hx2 hy2 hz2
  obtain ⟨m0, hm0⟩ : ∃ m, m = s.size - a := ⟨_, rfl⟩
  have hv : val ((bs t).take 3) = x * 65536 + y * 256 + z := by rw [val_take3 _ (by rw [length_bs]; omega), hx, hy, hz]
  obtain ⟨L, hL⟩ : ∃ L, L = x * 65536 + y * 256 + z := ⟨_, rfl⟩
  rw [← hL] at hv o2
  have HV := Lib.hid hv
  have HT := Lib.hid ht
  have HBT := Lib.hid hbt
  obtain ⟨W1, hW1⟩ : ∃ W, W = Lib.bytesWorld w 5 t := ⟨_, rfl⟩
  obtain ⟨cap, hcap⟩ : ∃ c, c = grownCap w t.size 0 5 := ⟨_, rfl⟩
  have hcv := Lib.run_convert_string_bytes (P := Tryz.prog) w 9 126 5 t Tryz.underlying9 Tryz.underlying126 Tryz.underlying5
  have hla : LooseAt W1 w.heap.size w.heap.size cap (bs t) := by
    obtain ⟨g, c, he, h⟩ := loose_bytes w t
    rw [← hcap] at he
    injection he with e1 e2 e3
    injection e1 with e1
    injection e1 with e1
    subst e1 e3
    rw [← hW1] at h
    exact h
  have hb1 : Below w.heap.size w W1 := by rw [hW1]; exact Go.Joins.below_bytesWorld w.heap.size w 5 t (Nat.le_refl _)
  rw [← hW1, ← hcap, htl] at hcv
  rw [ht] at hcv
  rw [show s.size - a = m0 from hm0.symm] at hcv
  have hlb : (bs t).length = m0 := by rw [length_bs, htl, hm0]
  obtain ⟨g, hg⟩ : ∃ g, g = w.heap.size := ⟨_, rfl⟩
  rw [← hg] at hcv hla
  have HG := Lib.hid hg
  have HLA := Lib.hid hla
  have HB1 := Lib.hid hb1
  have HLB := Lib.hid hlb
  have hcm : m0 ≤ cap := by rw [← hlb]; exact hla.n
  have c0 : ∀ u : Grow W1, u.val.cell? ⟨g, 0, none⟩ = some (.int .u8 (x : Nat)) := fun u => u.cell (by rw [hx]; exact hla.cells 0 (by omega))
  have c1 : ∀ u : Grow W1, u.val.cell? ⟨g, 1, none⟩ = some (.int .u8 (y : Nat)) := fun u => u.cell (by rw [hy]; exact hla.cells 1 (by omega))
  have c2 : ∀ u : Grow W1, u.val.cell? ⟨g, 2, none⟩ = some (.int .u8 (z : Nat)) := fun u => u.cell (by rw [hz]; exact hla.cells 2 (by omega))
  have hm1 : (s.size : Int) - (a : Int) = (m0 : Int) := by omega
  have hm2 : 19 ≤ m0 := by omega
  have hm3 : a + m0 = s.size := by omega
  have HL := Lib.hid hL
  have HM0 := Lib.hid hm0
  clear hbt hx hy hz hv hL glt E hW1 hcap hg hla hb1 hlb htl hm0 ht
  go_enter Tryz.func72, Tryz.ntmps72
  go_wp2_with fail
  refine wp_region_fam (by kernel_rfl) (by kernel_rfl) Grow.val (Grow.start W1) ?_
  repeat go_big_quiet_step (fail)
  refine wpQuiet_nil ?_
  intro tt
  obtain ⟨W2, hW2⟩ : ∃ W, W = tt.val := ⟨_, rfl⟩
  have hbe2 := tt.below
  rw [← hW2] at hbe2
  rw [← hW2]
  have hla2 : LooseAt W2 g g cap (bs t) := HLA.out.grown (r := none) ⟨hbe2.os, hbe2.tape, hbe2.output, hbe2.size, fun k hk _ => hbe2.block k hk⟩ (by simp)
  have HB2 := Lib.hid (HB1.out.trans (hbe2.mono HB1.out.size))
  have HLA2 := Lib.hid hla2
  clear c0 c1 c2 hbe2 hW2 hla2 o1 o2
  by_cases hlong : 16384 < L
  · have hlong' : 16384 < (L : Int) := by omega
    have HW : Hid (whole (bs t) = none) := by unfold Hid whole; rw [HV.out, if_neg (by rw [HLB.out]; omega), if_pos (.inl hlong)]
    go_wp2_with fail
    (try simp only [Exit.inBlock, Exit.then]); refine bodyPost_ret (results_tmp4 rfl _ _ _) rfl ?_
    refine ⟨?_, HB2.out⟩
    rw [HW.out]
    rfl
  by_cases hshort : m0 < 19 + L
  · have hlong' : ¬ 16384 < (L : Int) := by omega
    have hshort' : (m0 : Int) < 11 + (L : Int) + 8 := by omega
    have HW : Hid (whole (bs t) = none) := by unfold Hid whole; rw [HV.out, if_neg (by rw [HLB.out]; omega), if_pos (.inr (by rw [HLB.out]; exact hshort))]
    go_wp2_with fail
    (try simp only [Exit.inBlock, Exit.then]); refine bodyPost_ret (results_tmp4 rfl _ _ _) rfl ?_
    refine ⟨?_, HB2.out⟩
    rw [HW.out]
    rfl
  have hlong' : ¬ 16384 < (L : Int) := by omega
  have hshort' : ¬ (m0 : Int) < 11 + (L : Int) + 8 := by omega
  have HWE : Hid (whole (bs t) = if val (((bs t).drop 3).take 8) < 1 ∨ 1099511627776 < val (((bs t).drop 3).take 8) ∨ ((bs t).drop 3).take 8 ≠ ((bs t).drop (11 + L)).take 8 then none else some (val (((bs t).drop 3).take 8), ((bs t).drop 11).take L)) := by
    unfold Hid
    conv => lhs; unfold whole
    rw [HV.out, if_neg (by rw [HLB.out]; omega), if_neg (by rw [HLB.out]; omega)]
  have g1 := fun c => convL HLA2.out 3 8 c (by rw [HLB.out]; omega)
  have g2 := fun c => convL HLA2.out (11 + L) 8 c (by rw [HLB.out]; omega)
  have g3 := fun (u : Grow W2) c => convL (HLA2.out.grown (u.grown none) (by simp)) 11 L c (by rw [HLB.out]; omega)
  obtain ⟨A, hA⟩ : ∃ A, A = ((bs t).drop 3).take 8 := ⟨_, rfl⟩
  obtain ⟨B, hB⟩ : ∃ A, A = ((bs t).drop (11 + L)).take 8 := ⟨_, rfl⟩
  obtain ⟨C, hC⟩ : ∃ A, A = ((bs t).drop 11).take L := ⟨_, rfl⟩
  have hAl : A.length = 8 := by rw [hA, List.length_take, List.length_drop, HLB.out]; omega
  have hBl : B.length = 8 := by rw [hB, List.length_take, List.length_drop, HLB.out]; omega
  have hCl : C.length = L := by rw [hC, List.length_take, List.length_drop, HLB.out]; omega
  have hAb : ∀ c ∈ A, c < 256 := fun c hc => bs_lt t c (List.mem_of_mem_drop (List.mem_of_mem_take (hA ▸ hc)))
  have hBb : ∀ c ∈ B, c < 256 := fun c hc => bs_lt t c (List.mem_of_mem_drop (List.mem_of_mem_take (hB ▸ hc)))
  rw [← hA] at g1
  rw [← hB] at g2
  rw [← hC] at g3
  rw [← hA, ← hB, ← hC] at HWE
  have HA := Lib.hid (ofW (strOf A) W2 (by rw [size_strOf, hAl]))
  have HB := Lib.hid (ofW (strOf B) W2 (by rw [size_strOf, hBl]))
  rw [bs_strOf A hAb] at HA
  rw [bs_strOf B hBb] at HB
  have HI : Hid (val A = val B → A = B) := val_inj hAb hBb (by rw [hAl, hBl])
  have HCL := Lib.hid hCl
  clear hA hB hC hAl hBl hCl hAb hBb
  obtain ⟨n, hn⟩ : ∃ n, n = val A := ⟨_, rfl⟩
  obtain ⟨n2, hn2⟩ : ∃ n, n = val B := ⟨_, rfl⟩
  rw [← hn] at HA HWE HI
  rw [← hn2] at HB HI
  have HN : Hid (A = B → n = n2) := by unfold Hid; intro h; rw [hn, hn2, h]
  clear hn hn2
  obtain ⟨b1, hb1⟩ : ∃ b, b = decide (1 ≤ n ∧ n ≤ 1099511627776) := ⟨_, rfl⟩
  obtain ⟨b2, hb2⟩ : ∃ b, b = decide (1 ≤ n2 ∧ n2 ≤ 1099511627776) := ⟨_, rfl⟩
  rw [← hb1] at HA
  rw [← hb2] at HB
  have HB1' := Lib.hid hb1
  clear hb1 hb2
  go_wp2_with fail
  refine HA.out.mono ?_
  rintro e w3 ⟨z1, rfl, hz1, rfl⟩
  have HZ1 := Lib.hid hz1
  clear hz1 g1 HA
  go_wp2_with fail
  refine HB.out.mono ?_
  rintro e w3 ⟨z2, rfl, hz2, rfl⟩
  have HZ2 := Lib.hid hz2
  clear hz2 g2 HB
  by_cases hn1 : 1 ≤ n ∧ n ≤ 1099511627776
  · have hz : z1 = n := (HZ1.out n hn1.2).2 rfl
    subst hz
    obtain rfl : b1 = true := by rw [HB1'.out]; exact decide_eq_true hn1
    by_cases hAB : A = B
    · have hz2 : z2 = n := (HZ2.out n hn1.2).2 (HN.out hAB).symm
      subst hz2
      have HW : Hid (whole (bs t) = some (n, C)) := by unfold Hid; rw [HWE.out, if_neg (by intro h; rcases h with h | h | h; omega; omega; exact h hAB)]
      clear HWE
      go_wp2_with fail
      refine wp_region_fam (by kernel_rfl) (by kernel_rfl) Grow.val (Grow.start _) ?_
      repeat go_big_quiet_step (fail)
      refine wpQuiet_nil ?_
      intro t2
      have HB3 := Lib.hid (HB2.out.trans (t2.below.mono HB2.out.size))
      go_wp2_with fail
      (try simp only [Exit.inBlock, Exit.then]); refine bodyPost_ret (results_tmp4 rfl _ _ _) rfl ?_
      refine ⟨?_, HB3.out⟩
      rw [HW.out]
      have e1 : ((a + (19 + C.length) : Nat) : Int) = (a : Int) + (11 + (L : Int) + 8) := by rw [HCL.out]; omega
      show _ = Ending.returned (.tuple #[.int .i64 n, .string (strOf C), .int .i64 ((a + (19 + C.length) : Nat) : Int), .bool true])
      rw [e1]; rfl
    · have hne : (n : Int) ≠ z2 := fun h => hAB (HI.out ((HZ2.out n hn1.2).1 h.symm).symm)
      have hne' : ((n : Int) != z2) = true := by simp [hne]
      have HW : Hid (whole (bs t) = none) := by unfold Hid; rw [HWE.out, if_pos (.inr (.inr hAB))]
      clear HWE
      go_wp2_with fail
      (try simp only [Exit.inBlock, Exit.then]); refine bodyPost_ret (results_tmp4 rfl _ _ _) rfl ?_
      refine ⟨?_, HB2.out⟩
      rw [HW.out]
      rfl
  · have HW : Hid (whole (bs t) = none) := by unfold Hid; rw [HWE.out, if_pos (by omega)]
    obtain rfl : b1 = false := by rw [HB1'.out]; exact decide_eq_false hn1
    clear HWE
    go_wp2_with fail
    (try simp only [Exit.inBlock, Exit.then]); refine bodyPost_ret (results_tmp4 rfl _ _ _) rfl ?_
    refine ⟨?_, HB2.out⟩
    rw [HW.out]
    rfl
theorem wholeW (s : ByteArray) (a : Int) (w : World) (hs : s.size ≤ 1099511627776) :
    Calls Tryz.prog 72 #[.string s, .int .i64 a] w fun e w' => e = .returned (wholeV (wholeAt s a)) ∧ Below w.heap.size w w' := by
  by_cases h : a < 0 ∨ (s.size : Int) < a
  · exact wholeW1 s a w hs h
  · obtain ⟨n, rfl⟩ := Int.eq_ofNat_of_zero_le (show 0 ≤ a by omega)
    exact wholeW2 s n w hs (by omega)
end Go.Proofs.YtilpbjcbffbjeaaGreatDoor
