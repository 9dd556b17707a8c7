/- Slices of numbers of 64 bits that the call made; the walk of Primes. -/
import Derived.Test.YtjlhckgokdjajaaTimes
import Derived.Test.YtjlhckgokdjajaaStrs
namespace Go.Proofs.Ytjlhckgokdjajaa
open Go.RowKit
/-- v holds the numbers l, in a block of its own from base on. -/
def Owns64 (w : World) (base : Nat) (v : Value) (l : List Nat) : Prop := w.ownsRow base 58 1 v l.length (nums .u64 l)
section
variable {P : Program} {ops : Array Oper} {rest : List Oper} {o : Oper} {a : Act} {w w' : World} {Q : Exit → Act → World → Prop} {base : Nat} {v : Value} {l : List Nat}
theorem Owns64.grown {row : Option Nat} (h : Owns64 w base v l) (hg : w.grownBy w' row) (hne : v.ownBlock = none ∨ v.ownBlock ≠ row) : Owns64 w' base v l := World.ownsRow.kept h hg hne
theorem Owns64.below (h : Owns64 w base v l) (hb : Below w.heap.size w w') : Owns64 w' base v l :=
  h.grown (row := none) ⟨hb.os, hb.tape, hb.output, hb.size, fun k hk _ => hb.block k hk⟩ (by cases hv : v.ownBlock <;> simp)
theorem Owns64.alloc (h : Owns64 w base v l) (ob : Obj) : Owns64 (w.alloc ob) base v l := World.ownsRow.alloc h ob
theorem Owns64.block (h : Owns64 w base v l) {k : Nat} (hk : v.ownBlock = some k) : base ≤ k ∧ k < w.heap.size := World.ownsRow.lt h k hk
theorem Owns64.lit (w : World) (l : List Nat) (c : Array Value) (hb : base ≤ w.heap.size) (hc : c = (nums .u64 l).toArray) (hm : l.length ≤ maxLen) :
    Owns64 (w.alloc (.cells c 58)) base (.slice (some ⟨w.heap.size, 0, none⟩) l.length l.length) l := by
  subst hc
  refine ⟨by simp [nums], .inr ⟨w.heap.size, l.length, _, rfl, hb, heap_alloc_new w _, Nat.le_refl _, hm, by simp [nums], ?_⟩⟩
  simp only [nums, Nat.mul_one]
  exact List.take_of_length_le (by simp)
theorem Owns64.shape (h : Owns64 w base v l) : ∃ p cap, v = .slice p l.length cap := by
  rcases h.2 with ⟨rfl, hn⟩ | ⟨g, cap, cur, rfl, _⟩
  · rw [hn]; exact ⟨none, 0, rfl⟩
  · exact ⟨_, cap, rfl⟩
/-- What it is, and where it lies. -/
theorem Owns64.form (h : Owns64 w base v l) (h0 : 0 < l.length) : ∃ g cap, v = .slice (some ⟨g, 0, none⟩) l.length cap ∧ base ≤ g ∧ l.length ≤ cap ∧ Cells64 w g l.length (fun j => l.getD j 0) ∧ ∀ j, w.frozen? ⟨g, j, none⟩ = false := by
  rcases h.2 with ⟨_, hn⟩ | ⟨g, cap, cur, rfl, hb, hg, hnc, _, hcs, htake⟩
  · omega
  · refine ⟨g, cap, rfl, hb, hnc, fun j hj => ?_, fun j => frozen_of_row w g j _ _ hg⟩
    have h1 := World.ownsRow.cellAt (w := w) (base := base) (e := 58) (size := 1) (g := g) (cap := cap) (n := l.length) (xs := nums .u64 l) h j (by omega)
    rw [h1]
    simp [nums, hj]
/-- append of numbers, to numbers. -/
theorem wpList_append_u64 (hgd : o.guard = none) (s x : Operand) (t : TypeId) (ho : o.op = .call { callee := .builtin .append, args := #[s, x], argTypes := #[t, t] })
    (ht : P.underlying t = some (.slice 58)) (hi : (P.info? 58).map (fun i => (i.zero, i.size, i.bytes)) = some (some (.int .u64 0), 1, 8))
    (hs : a.eval s = v) (hown : Owns64 w base v l) (ad : Addr) (m c : Nat) (news : List Nat) (hx : a.eval x = .slice (some ad) m c) (hm : news.length = m)
    (hnews : ∀ j, j < m → w.cell? (ad.add j) = some (.int .u64 (news.getD j 0 : Nat))) (hsz : l.length + m ≤ 1000000) (hbase : base ≤ w.heap.size)
    (h : ∀ v' w', Owns64 w' base v' (l ++ news) → w.grownBy w' v.ownBlock → (v'.ownBlock = v.ownBlock ∨ v'.ownBlock = some w.heap.size) → wpList P ops Q rest (a.put o.dst v') w') : wpList P ops Q (o :: rest) a w := by
  obtain ⟨i0, hi0, hz0, hz1, hz2⟩ := info_parts hi
  refine wpList_append_own_at w hgd s x t ho base 58 i0 (.int .u64 0) 1 8 ht hi0 hz0 hz1 hz2 rfl (by decide) v l.length (nums .u64 l) hs hown ad m c (nums .u64 news) hx (by rw [length_nums]; omega) ?_ (oneCell_nums .u64 news) (by unfold maxLen; omega) (by omega) hbase ?_
  · intro j u hu
    have hj : j < news.length := by rw [← length_nums .u64 news]; exact (List.getElem?_eq_some_iff.1 hu).1
    rw [hnews j (by omega), ← hu]
    simp [nums, hj]
  · intro v' w' h1 h2 _ h4
    refine h v' w' ?_ h2 h4
    unfold Owns64
    rw [List.length_append, hm]
    have : nums .u64 (l ++ news) = nums .u64 l ++ nums .u64 news := by simp [nums]
    rw [this]; exact h1
end
theorem isPrime_take (l : List Nat) (p i : Nat) (h : i < l.length) : Sha.isPrimeBy (l.take (i + 1)) p = (Sha.isPrimeBy (l.take i) p && (p % l.getD i 0 != 0)) := by
  unfold Sha.isPrimeBy
  rw [take_succ_getD l i 0 h, List.all_append]
  simp
set_option maxRecDepth 100000 in
set_option maxHeartbeats 400000 in
theorem primesW (w : World) : Calls Try.prog 36 #[.int .i64 80] w fun e w' => ∃ g cap, e = .returned (.slice (some ⟨g, 0, none⟩) 80 cap) ∧ Cells64 w' g 80 (fun j => Sha.primes80.getD j 0) ∧ Below w.heap.size w w' ∧ w.heap.size ≤ g := by
  go_enter Try.func36, Try.ntmps36
  go_wp2_with fail
  have ho : Owns64 (w.alloc (.cells #[] 58)) w.heap.size (.slice (some ⟨w.heap.size, 0, none⟩) 0 0) [] := Owns64.lit w [] #[] (Nat.le_refl _) rfl (by decide)
  have hb : Below w.heap.size w (w.alloc (.cells #[] 58)) := (Below.refl _ _).alloc (Nat.le_refl _) _
  have hs : w.heap.size ≤ (w.alloc (.cells #[] 58)).heap.size := by simp
  obtain ⟨W1, hW1⟩ : ∃ v, v = w.alloc (.cells #[] 58) := ⟨_, rfl⟩
  rw [← hW1] at ho hb hs ⊢
  obtain ⟨base, hbase⟩ : ∃ b, b = w.heap.size := ⟨_, rfl⟩
  rw [← hbase] at ho hb hs ⊢
  have HO := Lib.hid ho
  have HB := Lib.hid hb
  have HS := Lib.hid hs
  have HBASE := Lib.hid hbase
  clear ho hb hs hW1 hbase
  go_loopw [3, 4] (fun vl vp wr => ∃ p : Nat, 2 ≤ p ∧ p ≤ 410 ∧ vp = .int .u64 (p : Nat) ∧ Owns64 wr base vl (Sha.primesBelow p) ∧ base ≤ wr.heap.size ∧ Below base w wr) (fun _ vp _ => (410 - intOf vp).toNat)
  case atStart => exact ⟨2, by omega, by omega, rfl, by rw [Sha.primesBelow_two]; exact HO.out, HS.out, HB.out⟩
  case round =>
    obtain ⟨p, hp2, hp, rfl, ho, hs, hb⟩ := hrel
    obtain ⟨vp, vc, rfl⟩ := ho.shape
    obtain ⟨L, hL⟩ : ∃ L, L = Sha.primesBelow p := ⟨_, rfl⟩
    rw [← hL] at ho ⊢
    have HO := Lib.hid ho
    have HB := Lib.hid hb
    have HS := Lib.hid hs
    have HLL := Lib.hid hL
    clear ho hb hs
    by_cases hlt : p < 410
    · have hst := Sha.primesBelow_step hp2 hlt
      rw [← hL] at hst
      obtain ⟨N, hN⟩ : ∃ N, N = L.length := ⟨_, rfl⟩
      have hN80 : N < 80 := by rw [hN]; exact hst.1
      have HST := Lib.hid hst.2
      have HNN := Lib.hid hN
      have ho := HO.out
      rw [← hN] at ho ⊢
      clear hst hL HO hN
      have HO := Lib.hid ho
      clear ho
      go_wp2_with fail
      obtain ⟨wo, rfl⟩ : ∃ wo : World, wo = wr := ⟨_, rfl⟩
      go_loop [5, 6] (fun vb vi => ∃ i : Nat, i ≤ N ∧ vi = .int .i64 (i : Nat) ∧ vb = .bool (Sha.isPrimeBy (L.take i) p)) (fun _ vi => (N - intOf vi).toNat)
      case atStart => exact ⟨0, by omega, rfl, rfl⟩
      case round =>
        obtain ⟨i, hi, rfl, rfl⟩ := hrel
        by_cases hit : i < N
        · have hnx := isPrime_take L p i (by rw [← HNN.out]; exact hit)
          obtain ⟨b, hb⟩ : ∃ b, b = Sha.isPrimeBy (L.take i) p := ⟨_, rfl⟩
          rw [← hb] at hnx ⊢
          clear hb
          cases b with
          | false =>
            have HNX := Lib.hid hnx
            clear hnx
            go_wp2_with fail
            go_round
            case rel => exact ⟨i + 1, by omega, by go_num, by rw [HNX.out]; rfl⟩
            case measure => simp [intOf]; omega
          | true =>
            obtain ⟨g, cap, hv, _, _, hcs, _⟩ := HO.out.form (by rw [← HNN.out]; omega)
            rw [← HNN.out] at hv hcs
            injection hv with hv1 hv2 hv3
            subst hv1
            have q1 : wo.cell? ⟨g, i, none⟩ = some (.int .u64 (L.getD i 0 : Nat)) := hcs i hit
            have hq := Sha.primesBelow_pos (p := p) (q := L.getD i 0) (by
              rw [← HLL.out, List.getD_eq_getElem?_getD, List.getElem?_eq_getElem (by rw [← HNN.out]; exact hit)]
              exact List.getElem_mem _)
            obtain ⟨q, hqq⟩ : ∃ q, q = L.getD i 0 := ⟨_, rfl⟩
            rw [← hqq] at hnx q1 hq
            obtain ⟨hq0, hq1⟩ := hq
            obtain ⟨r, hr⟩ : ∃ r, r = p % q := ⟨_, rfl⟩
            have hrq : r < q := by rw [hr]; exact Nat.mod_lt _ hq0
            have hrr : (p : Int) % (q : Int) = (r : Int) := by rw [hr]; simp
            rw [← hr] at hnx
            have HNX := Lib.hid hnx
            clear hnx hcs hqq hr hv2 hv3
            go_wp2_with fail
            refine ⟨⟨i + 1, by omega, by go_num, ?_⟩, by simp [intOf]; omega⟩
            rw [HNX.out, Bool.true_and]
            congr 1
            rw [Bool.eq_iff_iff, bne_iff_ne, bne_iff_ne]
            omega
        · have hiN : i = N := by omega
          rw [show L.take i = L by rw [hiN, HNN.out, List.take_length]]
          have hst2 := HST.out
          obtain ⟨b, hb⟩ : ∃ b, b = Sha.isPrimeBy L p := ⟨_, rfl⟩
          rw [← hb] at hst2 ⊢
          have HST2 := Lib.hid hst2
          clear hb hst2 HST hiN
          cases b with
          | false =>
            go_wp2_with fail
            refine ⟨⟨p + 1, by omega, by omega, rfl, ?_, HS.out, HB.out⟩, by simp [intOf]; omega⟩
            have h1 := HST2.out
            rw [if_neg (by decide)] at h1
            rw [h1]; exact HO.out
          | true =>
            have h1 := HST2.out
            rw [if_pos rfl] at h1
            have H1 := Lib.hid h1
            clear h1
            go_wp2_with (at_builtin; refine wpList_append_u64 rfl _ _ 49 rfl Try.underlying49 info58 rfl (HO.out.alloc _) ⟨wo.heap.size, 0, none⟩ 1 1 [p] rfl rfl ?c1 ?c2 ?c3 ?_)
            case c2 => rw [← HNN.out]; omega
            case c3 => have := HS.out; simp; omega
            intro v' w2 ho2 hg2 _
            rw [← H1.out] at ho2
            have HO2 := Lib.hid ho2
            have HB2 := Lib.hid ((HB.out.alloc HS.out _).grown hg2 (by have := HS.out; simp; omega) (fun k hk => (HO.out.block hk).1))
            have HS2 : Hid (base ≤ w2.heap.size) := Nat.le_trans (Nat.le_trans HS.out (by simp)) hg2.size
            clear ho2 hg2
            go_wp2_with fail
            exact ⟨⟨p + 1, by omega, by omega, rfl, HO2.out, HS2.out, HB2.out⟩, by simp [intOf]; omega⟩
    · obtain rfl : p = 410 := by omega
      rw [Sha.primesBelow_end] at hL
      subst hL
      have h80 : Sha.primes80.length = 80 := by decide
      obtain ⟨g, cap, hv, hg, _, hcs, _⟩ := HO.out.form (by rw [h80]; decide)
      rw [h80] at hv hcs ⊢
      injection hv with hv1 hv2 hv3
      subst hv1
      have HCS := Lib.hid hcs
      clear hcs h80 hv2 hv3 HLL HO
      go_wp2_with fail
      go_ret
      have h := HBASE.out
      subst h
      exact ⟨g, vc, rfl, HCS.out, HB.out, hg⟩
end Go.Proofs.Ytjlhckgokdjajaa
