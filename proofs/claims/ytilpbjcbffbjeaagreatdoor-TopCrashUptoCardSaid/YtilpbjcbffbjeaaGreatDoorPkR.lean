/- The store's entries: a number and a text; wrap.
   The store's read: an entry read.
   The store's logs in plain terms: entries whose last one counts; at work, at rest. No program in sight.
   The store's lay: an entry is put behind, or in the place of all; whether the power goes or not.
   A store in memory: its cells; Epoch, Dead, Generation, Text.
   The store's Commit; a store on its disk. -/
import Derived.Test.YtilpbjcbffbjeaaGreatDoorPkF
import Derived.Test.YtilpbjcbffbjeaaGreatDoorPkB
import Derived.Test.YtilpbjcbffbjeaaGreatDoorWCalls
namespace Go.Proofs.YtilpbjcbffbjeaaGreatDoor
set_option linter.unusedVariables false
set_option maxRecDepth 100000
open Go.RowKit
/-- An entry: a number in eight bytes, a text. -/
def entS (n : Nat) (t : ByteArray) : ByteArray := strOf (num n 8) ++ t
theorem size_entS (n : Nat) (t : ByteArray) : (entS n t).size = 8 + t.size := by unfold entS; rw [ByteArray.size_append, size_strOf, length_num]
theorem bs_entS (n : Nat) (t : ByteArray) : bs (entS n t) = num n 8 ++ bs t := by unfold entS; rw [bs_append, bs_strOf _ (num_lt _ _)]
theorem entS_inj {n m : Nat} {s t : ByteArray} (hn : n < 256 ^ 8) (hm : m < 256 ^ 8) (h : entS n s = entS m t) : n = m ∧ s = t := by
  have h1 := congrArg bs h
  rw [bs_entS, bs_entS] at h1
  obtain ⟨h2, h3⟩ := List.append_inj h1 (by rw [length_num, length_num])
  have h4 := congrArg val h2
  rw [val_num _ _ hn, val_num _ _ hm] at h4
  refine ⟨h4, ?_⟩
  rw [← strOf_bs s, h3, strOf_bs]
theorem makeB0 (u : World) (n : Nat) (hn : n ≤ 2097152) : (Instr.makeSlice 126 (.int .i64 0) (.int .i64 (n : Int))).run Tryz.prog u = .ok (.slice (some ⟨u.heap.size, 0, none⟩) 0 n) (u.alloc (.cells (madeCells #[.int .u8 0] n) 5)) := by
  obtain ⟨i0, hi0, hz0, hz1, hz2⟩ := info_parts infoB
  have h := run_make (P := Tryz.prog) u 126 5 i0 (.int .u8 0) Tryz.underlying126 hi0 hz0 .i64 .i64 0 (n : Int) (by omega) (by omega) (by rw [hz2]; omega) (by omega)
  rw [hz1] at h
  simpa [Value.cells] using h
theorem makeB_owns (u : World) (n : Nat) (hn : n ≤ 2097152) : Owns (u.alloc (.cells (madeCells #[.int .u8 0] n) 5)) u.heap.size 5 (.slice (some ⟨u.heap.size, 0, none⟩) 0 n) [] := by
  refine ⟨rfl, .inr ⟨u.heap.size, n, _, rfl, Nat.le_refl _, heap_alloc_new u _, Nat.zero_le _, by unfold maxLen; omega, ?_, ?_⟩⟩
  · simp [madeCells]
  · simp [nums]
set_option maxHeartbeats 1000000 in
theorem sentryW (n : Nat) (t : ByteArray) (w : World) (hn : n < 9223372036854775808) (ht : t.size ≤ 1048576) :
    Calls Tryz.prog 49 #[.int .i64 (n : Nat), .string t] w fun e w' => e = .returned (.string (entS n t)) ∧ Below w.heap.size w w' := by
  have hmk : (Instr.makeSlice 126 (.int .i64 0) (.int .i64 (8 + (t.size : Int)))).run Tryz.prog w = .ok (.slice (some ⟨w.heap.size, 0, none⟩) 0 (8 + t.size)) (w.alloc (.cells (madeCells #[.int .u8 0] (8 + t.size)) 5)) := by
    have h := makeB0 w (8 + t.size) (by omega)
    rwa [show (((8 + t.size : Nat)) : Int) = 8 + (t.size : Int) by omega] at h
  have HO0 := Lib.hid (makeB_owns w (8 + t.size) (by omega))
  have m1 : ¬ 9223372036854775807 < (strOf (num n 8)).size + t.size := by rw [size_strOf, length_num]; omega
  go_enter Tryz.func49, Tryz.ntmps49
  go_wp2_with fail
  obtain ⟨w1, hw1⟩ : ∃ v, v = w.alloc (.cells (madeCells #[.int .u8 0] (8 + t.size)) 5) := ⟨_, rfl⟩
  have HB1 : Hid (Below w.heap.size w w1) := by unfold Hid; rw [hw1]; exact (Below.refl _ _).alloc (Nat.le_refl _) _
  rw [← hw1] at HO0 ⊢
  clear hw1 hmk
  go_loopw [5, 6] (fun v5 v6 wr => ∃ (i : Nat) (l' : List Nat), i ≤ 8 ∧ v6 = .int .i64 ((i : Int) - 1) ∧ Owns wr w.heap.size 5 v5 l' ∧ l' ++ num n i = num n 8 ∧ w.heap.size ≤ wr.heap.size ∧ Below w.heap.size w wr) (fun _ v _ => (intOf v + 1).toNat)
  case atStart => exact ⟨8, [], by omega, rfl, HO0.out, rfl, HB1.out.size, HB1.out⟩
  case round =>
    clear HO0 HB1
    obtain ⟨i, l', hi, rfl, ho, he, hs, hb⟩ := hrel
    obtain ⟨p1, c1, rfl⟩ := ho.shape
    have HO := Lib.hid ho
    have HB := Lib.hid hb
    have HS := Lib.hid hs
    have HE := Lib.hid he
    have hlen : l'.length + i = 8 := by have := congrArg List.length he; rw [List.length_append, length_num, length_num] at this; exact this
    have HLN := Lib.hid hlen
    clear ho he hs hb hlen
    rcases i with _ | i
    · have h2 := HE.out
      rw [show num n 0 = [] from rfl, List.append_nil] at h2
      subst h2
      clear HE HLN
      go_wp2_with (with_reducible refine wpList_owned_string rfl 126 9 _ rfl Tryz.underlying126 Tryz.underlying5 Tryz.underlying9 rfl HO.out ?_)
      go_ret
      exact ⟨rfl, HB.out⟩
    · have e1 : ((i + 1 : Nat) : Int) - 1 = (i : Int) := by omega
      rw [e1]
      obtain ⟨c, hc⟩ : ∃ c, c = n / 256 ^ i % 256 := ⟨_, rfl⟩
      have hc256 : c < 256 := by omega
      have hq : (n : Int) / 2 ^ (8 * i) % 256 = (c : Int) := by
        rw [shrN, hc, show 256 ^ i = 2 ^ (8 * i) by rw [Nat.pow_mul]]; omega
      obtain ⟨q, hqd⟩ : ∃ q, q = n / 2 ^ (8 * i) := ⟨_, rfl⟩
      have hqn : q ≤ n := by rw [hqd]; exact Nat.div_le_self _ _
      have hqq : (n : Int) / 2 ^ (8 * i) = (q : Int) := by rw [hqd, shrN]
      rw [hqq] at hq
      have HC := Lib.hid hc
      clear hc hqd e1
      go_wp2_with (at_builtin; refine wpList_append_bytes rfl _ _ 126 rfl Tryz.underlying126 infoB rfl (HO.out.alloc _) ⟨wr.heap.size, 0, none⟩ 1 1 [c] rfl rfl ?d1 ?d2 ?d3 ?_)
      case d1 => intro k hk; obtain rfl : k = 0 := by omega
                 simp [Addr.add]
      case d2 => have := HLN.out; omega
      case d3 => have := HS.out; simp; omega
      intro v' w2 ho2 hg2 _
      have HO2 := Lib.hid ho2
      have HB2 := Lib.hid ((HB.out.alloc HS.out _).grown hg2 (by have := HS.out; simp; omega) (fun k hk => (HO.out.block hk).1))
      have HS2 : Hid (w.heap.size ≤ w2.heap.size) := Nat.le_trans (Nat.le_trans HS.out (by simp)) hg2.size
      clear ho2 hg2
      go_wp2_with fail
      refine ⟨⟨i, l' ++ [c], by omega, rfl, HO2.out, ?_, HS2.out, HB2.out⟩, by simp [intOf]⟩
      rw [← HE.out, num_succ, HC.out, List.append_assoc]; rfl
def sErr (word : ByteArray) (e : Int) : Value := .iface 144 (.agg #[.string word, .iface 142 (.agg #[.int .i64 e])])
theorem swrapOk (name : ByteArray) (w : World) : Calls Tryz.prog 50 #[.string name, .int .i64 0] w fun e w' => e = .returned .nilIface ∧ w' = w := by
  go_enter Tryz.func50, Tryz.ntmps50
  go_wp2
  go_ret
  exact ⟨rfl, rfl⟩
theorem swrapNo (name : ByteArray) (e : Int) (he : e ≠ 0) (w : World) : Calls Tryz.prog 50 #[.string name, .int .i64 e] w fun ev w' => ev = .returned (sErr name e) ∧ w' = w := by
  have h1 : (e == 0) = false := by rw [beq_eq_false_iff_ne]; exact he
  go_enter Tryz.func50, Tryz.ntmps50
  go_wp2
  go_ret
  exact ⟨rfl, rfl⟩
end Go.Proofs.YtilpbjcbffbjeaaGreatDoor
namespace Go.Proofs.YtilpbjcbffbjeaaGreatDoor
set_option linter.unusedVariables false
set_option maxRecDepth 100000
open Go.RowKit
theorem cutLoS (s : ByteArray) (lo : Int) (l : Nat) (hl : lo = l) (h2 : l ≤ s.size) (w : World) :
    (Instr.slice 9 (.string s) (some (.int .i64 lo)) none none).run Tryz.prog w = .ok (.string (s.extract l s.size)) w := by
  subst hl
  simp [Instr.slice, run_underlying Tryz.underlying9, Instr.sliceBounds, Instr.sliceBound, asIntOf, h2]
theorem extract_ent (n : Nat) (t : ByteArray) : (entS n t).extract 8 (entS n t).size = t := by
  rw [← strOf_bs ((entS n t).extract 8 (entS n t).size), bs_extract, bs_entS, size_entS]
  rw [List.drop_append_of_le_length (by rw [length_num]; exact Nat.le_refl 8), List.drop_of_length_le (by rw [length_num]; exact Nat.le_refl 8), List.nil_append, List.take_of_length_le (by rw [length_bs]; omega), strOf_bs]
set_option maxHeartbeats 2000000 in
theorem sreadW (n most : Nat) (t : ByteArray) (w : World) (hn : n ≤ 1099511627776) (ht : t.size ≤ most) (hm : most ≤ 1048576) :
    Calls Tryz.prog 119 #[.string (entS n t), .int .i64 (most : Nat)] w fun e w' => e = .returned (.tuple #[.int .i64 (n : Nat), .string t, .nilIface]) ∧ Below w.heap.size w w' := by
  obtain ⟨s, hs⟩ : ∃ s, s = entS n t := ⟨_, rfl⟩
  have hz : s.size = 8 + t.size := by rw [hs, size_entS]
  have htk : ∀ i, i ≤ 8 → (bs s).take i = (num n 8).take i := fun i hi => by rw [hs, bs_entS, List.take_append_of_le_length (by rw [length_num]; exact hi)]
  have hv : val (num n 8) = n := val_num n 8 (by omega)
  have hx := extract_ent n t
  rw [← hs] at hx ⊢
  have hcut : ∀ w, (Instr.slice 9 (.string s) (some (.int .i64 8)) none none).run Tryz.prog w = .ok (.string t) w := fun w => by
    have h := cutLoS s 8 8 rfl (by omega) w
    rwa [hx] at h
  have h1 : ¬ (s.size : Int) < 8 := by omega
  have h2 : ¬ 8 + (most : Int) < (s.size : Int) := by omega
  have hsb : (s.size : Int) ≤ 1048584 := by omega
  have HZ := Lib.hid hz
  have HTK := Lib.hid htk
  have HV := Lib.hid hv
  clear hs hz htk hv hx
  go_enter Tryz.func119, Tryz.ntmps119
  go_wp2_with fail
  go_loopw [7, 20] (fun v7 v20 wr => ∃ i : Nat, i ≤ 8 ∧ v20 = .int .i64 (i : Nat) ∧ v7 = .int .u64 (val ((bs s).take i) : Nat) ∧ wr = w) (fun _ v _ => (8 - intOf v).toNat)
  case atStart => exact ⟨0, by omega, rfl, rfl, rfl⟩
  case round =>
    obtain ⟨i, hi, rfl, rfl, rfl⟩ := hrel
    by_cases h8 : i < 8
    · have h8' : i < s.size := by have := HZ.out; omega
      obtain ⟨x, hx⟩ : ∃ x, x = val ((bs s).take i) := ⟨_, rfl⟩
      obtain ⟨c, hc⟩ : ∃ c, c = s[i].toNat := ⟨_, rfl⟩
      have hxl : x < 72057594037927936 := by
        have := val_lt ((bs s).take i) (fun c hc => bs_lt s c (List.mem_of_mem_take hc))
        rw [← hx, List.length_take, length_bs, Nat.min_eq_left (by omega)] at this
        have : 256 ^ i ≤ 256 ^ 7 := Nat.pow_le_pow_right (by decide) (by omega)
        omega
      have hcl : c < 256 := by rw [hc]; exact UInt8.toNat_lt _
      have HN : Hid (val ((bs s).take (i + 1)) = x * 256 + c) := by
        unfold Hid; rw [val_take_succ _ _ (by rw [length_bs]; omega), hx, hc, get_bsW s i h8']
      have hor := or_u64c x c hxl hcl
      rw [← hx]
      have HX := Lib.hid hx
      clear hx
      go_wp2_with fail
      refine ⟨⟨i + 1, by omega, rfl, ?_, trivial⟩, by simp only [intOf]; omega⟩
      rw [HN.out, ← hc, hor]
    · obtain rfl : i = 8 := by omega
      have hvv : val ((bs s).take 8) = n := by rw [HTK.out 8 (Nat.le_refl _), List.take_of_length_le (by rw [length_num]; exact Nat.le_refl 8), HV.out]
      rw [hvv]
      clear h8 hi hvv
      go_wp2_with fail
      go_region
      all_goals go_wp2
      all_goals (refine bodyPost_ret (results_tmp3 rfl _ _ _) rfl ?_)
      all_goals exact ⟨rfl, (Below.refl _ _).drew⟩
end Go.Proofs.YtilpbjcbffbjeaaGreatDoor
namespace Go.Proofs.YtilpbjcbffbjeaaGreatDoor
set_option linter.unusedVariables false
set_option maxRecDepth 100000
open Go.RowKit
set_option linter.unusedSectionVars false
variable [Avoid]
/-- An entry that may be there. -/
def EntOk (most : Nat) (s : ByteArray) : Prop := ∃ m u, s = entS m u ∧ m ≤ 1099511627776 ∧ u.size ≤ most
structure KpX (l : List Fl) (M f most : Nat) (L : Lg) (snap : ByteArray) (ps : List ByteArray) (n : Nat) (tx : ByteArray) : Prop where
  lc : LC l M f L snap ps ps.length
  few : ps.length ≤ 16
  ents : ∀ s ∈ snap :: ps, EntOk most s
  last : (snap :: ps).getLast? = some (entS n tx)
  hn : n ≤ 1099511627776
  ht : tx.size ≤ most
def Kp (l : List Fl) (M f most : Nat) (L : Lg) (n : Nat) (tx : ByteArray) : Prop := ∃ snap ps, KpX l M f most L snap ps n tx
structure RsX (l : List Fl) (M f most : Nat) (snap : ByteArray) (ps : List ByteArray) (n : Nat) (tx : ByteArray) : Prop where
  rest : Rest l M f snap ps
  few : ps.length ≤ 16
  ents : ∀ s ∈ snap :: ps, EntOk most s
  last : (snap :: ps).getLast? = some (entS n tx)
  hn : n ≤ 1099511627776
  ht : tx.size ≤ most
def Rs (l : List Fl) (M f most : Nat) (n : Nat) (tx : ByteArray) : Prop := ∃ snap ps, RsX l M f most snap ps n tx
section
variable {l l' : List Fl} {M M' f most n m : Nat} {L L' : Lg} {tx s : ByteArray} {snap : ByteArray} {ps : List ByteArray}
theorem Kp.rest (h : Kp l M f most L n tx) : Rs l M f most n tx := by
  obtain ⟨snap, ps, h⟩ := h
  exact ⟨snap, ps, h.lc.rest, h.few, h.ents, h.last, h.hn, h.ht⟩
theorem Kp.mono (h : Kp l M f most L n tx) (hm : M ≤ M') : Kp l M' f most L n tx := by
  obtain ⟨snap, ps, h⟩ := h
  exact ⟨snap, ps, h.lc.mono hm, h.few, h.ents, h.last, h.hn, h.ht⟩
theorem Rs.mono (h : Rs l M f most n tx) (hm : M ≤ M') : Rs l M' f most n tx := by
  obtain ⟨snap, ps, h⟩ := h
  exact ⟨snap, ps, h.rest.mono hm, h.few, h.ents, h.last, h.hn, h.ht⟩
theorem Rs.died (h : Rs l M f most n tx) (hd : Died l l') : Rs l' M f most n tx := by
  obtain ⟨snap, ps, h⟩ := h
  exact ⟨snap, ps, h.rest.died hd, h.few, h.ents, h.last, h.hn, h.ht⟩
/-- The log's two files alone count. -/
theorem LC.other_eq {k : Nat} (h : LC l M f L snap ps k) (hl : l'.length = l.length) (h0 : l'.getD f Fl.zero = l.getD f Fl.zero) (h1 : l'.getD (f + 1) Fl.zero = l.getD (f + 1) Fl.zero) : LC l' M f L snap ps k := by
  have hc : l'.getD L.counts Fl.zero = l.getD L.counts Fl.zero := by rcases h.counts with e | e <;> rw [e] <;> assumption
  have ho : l'.getD L.other Fl.zero = l.getD L.other Fl.zero := by rcases h.oth.1 with e | e <;> rw [e] <;> assumption
  exact ⟨by rw [hl]; exact h.f1, h.first, h.counts, h.live, h.n, h.gen1, h.gen2, by rw [hc]; exact h.cnt, by rw [ho]; exact h.other, h.sn, h.pl⟩
theorem Kp.other (h : Kp l M f most L n tx) (hl : l'.length = l.length) (h0 : l'.getD f Fl.zero = l.getD f Fl.zero) (h1 : l'.getD (f + 1) Fl.zero = l.getD (f + 1) Fl.zero) : Kp l' M f most L n tx := by
  obtain ⟨snap, ps, h⟩ := h
  exact ⟨snap, ps, h.lc.other_eq hl h0 h1, h.few, h.ents, h.last, h.hn, h.ht⟩
theorem Rest.same_files (h : Rest l M f snap ps) (hl : l'.length = l.length) (h0 : l'.getD f Fl.zero = l.getD f Fl.zero) (h1 : l'.getD (f + 1) Fl.zero = l.getD (f + 1) Fl.zero) : Rest l' M f snap ps := by
  obtain ⟨c, o, gen, h⟩ := h
  have hc : l'.getD c Fl.zero = l.getD c Fl.zero := by rcases h.co with ⟨e, _⟩ | ⟨e, _⟩ <;> rw [e] <;> assumption
  have ho : l'.getD o Fl.zero = l.getD o Fl.zero := by rcases h.co with ⟨_, e⟩ | ⟨_, e⟩ <;> rw [e] <;> assumption
  exact ⟨c, o, gen, by rw [hl]; exact h.f1, h.co, by rw [hc]; exact h.cw, by rw [ho]; exact h.ow, by rw [hc]; exact h.cb, by rw [ho]; exact h.ob, h.gen1, h.gen2, h.sn, h.pl⟩
theorem Rs.other (h : Rs l M f most n tx) (hl : l'.length = l.length) (h0 : l'.getD f Fl.zero = l.getD f Fl.zero) (h1 : l'.getD (f + 1) Fl.zero = l.getD (f + 1) Fl.zero) : Rs l' M f most n tx := by
  obtain ⟨snap, ps, h⟩ := h
  exact ⟨snap, ps, h.rest.same_files hl h0 h1, h.few, h.ents, h.last, h.hn, h.ht⟩
theorem Rest1.wss {c o gen : Nat} (h : Rest1 l M f snap ps c o gen) : (l.getD f Fl.zero).ws = [] ∧ (l.getD (f + 1) Fl.zero).ws = [] := by
  rcases h.co with ⟨rfl, rfl⟩ | ⟨rfl, rfl⟩
  · exact ⟨h.cw, h.ow⟩
  · exact ⟨h.ow, h.cw⟩
/-- At rest, the power's going elsewhere changes nothing. -/
theorem Rs.gone {D D' : Dk} {f2 : Nat} (h : Rs D.l M f most n tx) (hg : GoneD D D' f2) (h0 : f ≠ f2) (h1 : f ≠ f2 + 1) (h2 : f + 1 ≠ f2) : Rs D'.l M f most n tx := by
  obtain ⟨snap, ps, h⟩ := h
  obtain ⟨c, o, gen, hr⟩ := h.rest
  have hf := hr.f1
  obtain ⟨e0, e1⟩ := hr.wss
  have h3 : f + 1 ≠ f2 + 1 := by omega
  obtain ⟨cs, q0⟩ := hg.other f h0 h1 (by omega)
  obtain ⟨cs', q1⟩ := hg.other (f + 1) h2 h3 hf
  rw [left_ws e0] at q0
  rw [left_ws e1] at q1
  exact Rs.other ⟨snap, ps, h⟩ hg.len q0 q1
theorem Kp.alive {D D' : Dk} {f2 : Nat} (h : Kp D.l M f most L n tx) (ha : Alive D D' f2) (h0 : f ≠ f2) (h1 : f ≠ f2 + 1) (h2 : f + 1 ≠ f2) : Kp D'.l M f most L n tx :=
  h.other ha.len (ha.other f h0 h1) (ha.other (f + 1) h2 (by omega))
theorem Rs.alive {D D' : Dk} {f2 : Nat} (h : Rs D.l M f most n tx) (ha : Alive D D' f2) (h0 : f ≠ f2) (h1 : f ≠ f2 + 1) (h2 : f + 1 ≠ f2) : Rs D'.l M f most n tx :=
  h.other ha.len (ha.other f h0 h1) (ha.other (f + 1) h2 (by omega))
theorem ents_snoc (h : ∀ s ∈ snap :: ps, EntOk most s) (hm : m ≤ 1099511627776) {u : ByteArray} (hu : u.size ≤ most) : ∀ s ∈ snap :: (ps ++ [entS m u]), EntOk most s := by
  intro s hs
  rw [← List.cons_append] at hs
  rcases List.mem_append.1 hs with hs | hs
  · exact h s hs
  · rw [List.mem_singleton.1 hs]; exact ⟨m, u, rfl, hm, hu⟩
theorem ents_one (hm : m ≤ 1099511627776) {u : ByteArray} (hu : u.size ≤ most) : ∀ s ∈ entS m u :: ([] : List ByteArray), EntOk most s := by
  intro s hs
  rw [List.mem_singleton.1 hs]; exact ⟨m, u, rfl, hm, hu⟩
theorem last_snoc (snap : ByteArray) (ps : List ByteArray) (s : ByteArray) : (snap :: (ps ++ [s])).getLast? = some s := by rw [← List.cons_append, List.getLast?_concat]
/-- The power went while an entry was being put behind. -/
theorem KpX.goneApp (h : KpX l M f most L snap ps n tx) (hm : m ≤ 1099511627776) {u : ByteArray} (hu : u.size ≤ most) (hlt : ps.length < 16) {j : Nat} (j1 : ps.length ≤ j) (j2 : j ≤ ps.length + 1) (hr : Rest l' M f snap ((ps ++ [entS m u]).take j)) : Rs l' M f most n tx ∨ Rs l' M f most m u := by
  rcases (show j = ps.length ∨ j = ps.length + 1 by omega) with e | e
  · rw [e, List.take_left] at hr
    exact .inl ⟨snap, ps, hr, h.few, h.ents, h.last, h.hn, h.ht⟩
  · rw [e, List.take_of_length_le (by rw [List.length_append, List.length_singleton]; exact Nat.le_refl _)] at hr
    exact .inr ⟨snap, _, hr, by rw [List.length_append, List.length_singleton]; omega, ents_snoc h.ents hm hu, last_snoc _ _ _, hm, hu⟩
theorem KpX.goneCp (h : KpX l M f most L snap ps n tx) (hm : m ≤ 1099511627776) {u : ByteArray} (hu : u.size ≤ most) (hr : Rest l' M' f (entS m u) [] ∨ ∃ j, ps.length ≤ j ∧ j ≤ ps.length ∧ Rest l' M' f snap (ps.take j)) : Rs l' M' f most n tx ∨ Rs l' M' f most m u := by
  rcases hr with hr | ⟨j, j1, j2, hr⟩
  · exact .inr ⟨_, _, hr, Nat.zero_le _, ents_one hm hu, rfl, hm, hu⟩
  · rw [List.take_of_length_le (by omega)] at hr
    exact .inl ⟨snap, ps, hr, h.few, h.ents, h.last, h.hn, h.ht⟩
theorem KpX.app (h : KpX l M f most L snap ps n tx) (hm : m ≤ 1099511627776) {u : ByteArray} (hu : u.size ≤ most) (hlt : ps.length < 16) (hl : LC l' M f L' snap (ps ++ [entS m u]) (ps ++ [entS m u]).length) : Kp l' M f most L' m u :=
  ⟨snap, _, hl, by rw [List.length_append, List.length_singleton]; omega, ents_snoc h.ents hm hu, last_snoc _ _ _, hm, hu⟩
theorem Kp.cp (hm : m ≤ 1099511627776) {u : ByteArray} (hu : u.size ≤ most) (hl : LC l' M f L' (entS m u) [] 0) : Kp l' M f most L' m u :=
  ⟨_, [], hl, Nat.zero_le _, ents_one hm hu, rfl, hm, hu⟩
end
end Go.Proofs.YtilpbjcbffbjeaaGreatDoor
namespace Go.Proofs.YtilpbjcbffbjeaaGreatDoor
set_option linter.unusedVariables false
set_option maxRecDepth 100000
open Go.RowKit
set_option linter.unusedSectionVars false
variable [Avoid]
/-- Few writes wait. -/
def FewS (D : Dk) : Prop := ∀ j, j < D.l.length → (D.l.getD j Fl.zero).ws.length ≤ 262144
theorem FewS.many {D : Dk} (h : FewS D) : Many D := fun j hj => by have := h j hj; omega
theorem LC.few_ws {l : List Fl} {M f k : Nat} {L : Lg} {snap : ByteArray} {ps : List ByteArray} (h : LC l M f L snap ps k) : (l.getD f Fl.zero).ws.length ≤ ps.length + 1 ∧ (l.getD (f + 1) Fl.zero).ws.length ≤ ps.length + 1 := by
  have hc : (l.getD L.counts Fl.zero).ws.length ≤ ps.length + 1 := by
    have h1 := congrArg List.length h.cnt.ws
    rw [List.length_map, length_recW, List.length_map, List.length_drop] at h1
    omega
  have ho : (l.getD L.other Fl.zero).ws.length ≤ ps.length + 1 := by rw [h.other]; exact Nat.zero_le _
  have h2 := h.oth
  have h3 := h.counts
  rcases h3 with e | e
  · rcases h2.1 with e2 | e2
    · exact absurd (e2.trans e.symm) h2.2.1
    · rw [e] at hc; rw [e2] at ho; exact ⟨hc, ho⟩
  · rcases h2.1 with e2 | e2
    · rw [e] at hc; rw [e2] at ho; exact ⟨ho, hc⟩
    · exact absurd (e2.trans e.symm) h2.2.1
theorem FewS.alive {D D' : Dk} {M f k : Nat} {L : Lg} {snap : ByteArray} {ps : List ByteArray} (h : FewS D) (ha : Alive D D' f) (hl : LC D'.l M f L snap ps k) (hn : ps.length ≤ 262143) : FewS D' := by
  intro j hj
  have hw := hl.few_ws
  by_cases e0 : j = f
  · subst e0; omega
  · by_cases e1 : j = f + 1
    · subst e1; omega
    · rw [ha.other j e0 e1]; exact h j (by rw [← ha.len]; exact hj)
/-- What becomes of a log in which an entry is laid. -/
inductive LayR (D : Dk) (M f most n : Nat) (tx : ByteArray) (m : Nat) (u : ByteArray) (D' : Dk) (L' : Lg) : Bool → Prop
  | ok : Alive D D' f → FewS D' → Kp D'.l (M + 1) f most L' m u → LayR D M f most n tx m u D' L' true
  | gone : GoneD D D' f → (Rs D'.l (M + 1) f most n tx ∨ Rs D'.l (M + 1) f most m u) → LayR D M f most n tx m u D' L' false
def wRec : ByteArray := ⟨#[97, 32, 114, 101, 99, 111, 114, 100]⟩
def wSyn : ByteArray := ⟨#[97, 32, 115, 121, 110, 99]⟩
def wCp : ByteArray := ⟨#[97, 32, 99, 104, 101, 99, 107, 112, 111, 105, 110, 116]⟩
set_option maxHeartbeats 6400000 in
theorem slayX {B b g cap lb kb ko M f most : Nat} {w0 w : World} {D : Dk} {L : Lg} {snap : ByteArray} {ps : List ByteArray} {n : Nat} {tx : ByteArray} (h : LAt B w0 b g cap lb D L w) (hne : kb ≠ lb ∧ kb ≠ b ∧ kb ≠ g) (v1 v2 : Value)
    (c0 : w.cell? ⟨kb, ko, none⟩ = some (.pointer (some ⟨lb, 0, none⟩))) (c1 : w.cell? ⟨kb, ko + 1, none⟩ = some v1) (c2 : w.cell? ⟨kb, ko + 2, none⟩ = some v2) (hf : ∀ j, w.frozen? ⟨kb, j, none⟩ = false)
    (hok : DOk D) (al : D.dead = false) (hk : KpX D.l M f most L snap ps n tx) (hfew : FewS D) (hM : M < 1099511627776) (m : Nat) (u : ByteArray) (hm : m ≤ 1099511627776) (hu : u.size ≤ most) (hmo : most ≤ 16000) :
    Calls Tryz.prog 58 #[.pointer (some ⟨kb, ko, none⟩), .int .i64 (m : Nat), .string u] w fun e w' => ∃ D' L' w2, LAt B w0 b g cap lb D' L' w2 ∧ Chg (fun k => k = lb ∨ k = b ∨ k = g) w w2 ∧
      ((e = .returned .nilIface ∧ w' = (w2.setCell ⟨kb, ko + 1, none⟩ (.int .i64 (m : Nat))).setCell ⟨kb, ko + 2, none⟩ (.string u) ∧ LayR D M f most n tx m u D' L' true) ∨
       (∃ word, e = .returned (sErr word 2) ∧ w' = w2 ∧ LayR D M f most n tx m u D' L' false)) := by
  have hkb : kb < w.heap.size := block_lt_of_cell c0
  have HKB : Hid (∀ u : World, Chg (fun k => k = lb ∨ k = b ∨ k = g) w u → u.cell? ⟨kb, ko, none⟩ = some (.pointer (some ⟨lb, 0, none⟩)) ∧ u.cell? ⟨kb, ko + 1, none⟩ = some v1 ∧ u.cell? ⟨kb, ko + 2, none⟩ = some v2 ∧ u.frozen? ⟨kb, ko + 1, none⟩ = false ∧ u.frozen? ⟨kb, ko + 2, none⟩ = false) := by
    intro u hc
    have e := hc.block kb hkb (by omega)
    exact ⟨(World.cell?_of_block e).trans c0, (World.cell?_of_block e).trans c1, (World.cell?_of_block e).trans c2, (World.frozen?_of_block e).trans (hf _), (World.frozen?_of_block e).trans (hf _)⟩
  have H := Lib.hid h
  have HK := Lib.hid hk
  have HOK := Lib.hid hok
  have HAL := Lib.hid al
  have HFW := Lib.hid hfew
  have hs : (entS m u).size ≤ 16384 := by rw [size_entS]; omega
  have HSZ := Lib.hid hs
  have HEN := Lib.hid (sentryW m u w (by omega) (by omega))
  obtain ⟨s, hsd⟩ : ∃ s, s = entS m u := ⟨_, rfl⟩
  have HSD := Lib.hid hsd
  rw [← hsd] at HEN HSZ
  obtain ⟨np, hnp⟩ : ∃ np, np = ps.length := ⟨_, rfl⟩
  have HNP := Lib.hid hnp
  have hLn : L.n = np := by rw [hnp]; exact hk.lc.n
  have HLN := Lib.hid hLn
  have hnb : np ≤ 16 := by rw [hnp]; exact hk.few
  clear h hk hok al hfew hs hsd hnp hLn c0 c1 c2 hf
  go_enter Tryz.func58, Tryz.ntmps58
  go_wp2_with fail
  refine HEN.out.mono ?_
  rintro e w1 ⟨rfl, hb1⟩
  have H1 := Lib.hid (H.out.grow hb1)
  have HC1 : Hid (Chg (fun k => k = lb ∨ k = b ∨ k = g) w w1) := Chg.of_below _ hb1
  obtain ⟨q0, q1, q2, q3, q4⟩ := HKB.out w1 HC1.out
  have HRC := Lib.hid H1.out.records
  rw [HLN.out] at HRC
  clear hb1 HEN H
  by_cases h16 : 16 ≤ np
  · have hi16 : (16 : Int) ≤ (np : Int) := by omega
    clear h16
    go_wp2_with fail
    refine HRC.out.mono ?_
    rintro e w2 ⟨rfl, rfl⟩
    clear HRC
    have HCP := Lib.hid (H1.out.cpR HOK.out HAL.out HK.out.lc hM HFW.out.many s)
    go_wp2_with fail
    refine HCP.out.mono ?_
    rintro e w3 ⟨r, D3, L3, rfl, hat3, hc3, hr3⟩
    have H3 := Lib.hid hat3
    have HC3 := Lib.hid (HC1.out.trans hc3)
    clear hat3 hc3 HCP q0 q1 q2 q3 q4
    cases hr3 with
    | long h1 => exact absurd h1 (by have := HSZ.out; omega)
    | ok D3 L3 h1 ha hl =>
      have HG : Hid (LayR D M f most n tx m u D3 L3 true) := by
        have hl' := hl
        rw [HSD.out] at hl'
        exact .ok ha (HFW.out.alive ha hl (by decide)) (Kp.cp hm hu hl')
      clear h1 ha hl
      obtain ⟨q0, q1, q2, q3, q4⟩ := HKB.out w3 HC3.out
      have HWR := Lib.hid (swrapOk wCp)
      go_wp2_with fail
      refine (HWR.out _).mono ?_
      rintro e w9 ⟨rfl, rfl⟩
      clear HWR
      go_wp2_with fail
      go_ret
      exact ⟨D3, L3, _, H3.out, HC3.out, .inl ⟨rfl, rfl, HG.out⟩⟩
    | gone D3 h1 hg hx =>
      have HG : Hid (LayR D M f most n tx m u D3 { L with dead := true } false) := by
        rw [HSD.out] at hx
        exact .gone hg (HK.out.goneCp hm hu hx)
      clear h1 hg hx
      have HWR := Lib.hid (swrapNo wCp 2 (by decide))
      go_wp2_with fail
      refine (HWR.out _).mono ?_
      rintro e w9 ⟨rfl, rfl⟩
      clear HWR
      unfold sErr
      go_wp2_with fail
      go_ret
      exact ⟨D3, _, _, H3.out, HC3.out, .inr ⟨wCp, rfl, rfl, HG.out⟩⟩
  · have hi16 : ¬ (16 : Int) ≤ (np : Int) := by omega
    have HRM := Lib.hid (roomW H1.out.log H1.out.on.disk HOK.out HK.out.lc.cl)
    rw [HLN.out] at HRM
    obtain ⟨z, hz⟩ : ∃ z, z = roomZ (rd (D.l.getD L.counts Fl.zero)).size np := ⟨_, rfl⟩
    rw [← hz] at HRM
    have HZ := Lib.hid hz
    have HN16 := Lib.hid h16
    clear h16 hz
    by_cases hr : z < (s.size : Int)
    · go_wp2_with fail
      refine HRC.out.mono ?_
      rintro e w2 ⟨rfl, rfl⟩
      clear HRC
      go_wp2_with fail
      refine HRM.out.mono ?_
      rintro e w2 ⟨rfl, hb2⟩
      replace H1 := Lib.hid (H1.out.grow hb2)
      replace HC1 := Lib.hid (HC1.out.trans (Chg.of_below _ hb2))
      clear hb2 HRM q0 q1 q2 q3 q4
      obtain ⟨q0, q1, q2, q3, q4⟩ := HKB.out w2 HC1.out
      have HCP := Lib.hid (H1.out.cpR HOK.out HAL.out HK.out.lc hM HFW.out.many s)
      go_wp2_with fail
      refine HCP.out.mono ?_
      rintro e w3 ⟨r, D3, L3, rfl, hat3, hc3, hr3⟩
      have H3 := Lib.hid hat3
      have HC3 := Lib.hid (HC1.out.trans hc3)
      clear hat3 hc3 HCP q0 q1 q2 q3 q4
      cases hr3 with
      | long h1 => exact absurd h1 (by have := HSZ.out; omega)
      | ok D3 L3 h1 ha hl =>
        have HG : Hid (LayR D M f most n tx m u D3 L3 true) := by
          have hl' := hl
          rw [HSD.out] at hl'
          exact .ok ha (HFW.out.alive ha hl (by decide)) (Kp.cp hm hu hl')
        clear h1 ha hl
        obtain ⟨q0, q1, q2, q3, q4⟩ := HKB.out w3 HC3.out
        have HWR := Lib.hid (swrapOk wCp)
        go_wp2_with fail
        refine (HWR.out _).mono ?_
        rintro e w9 ⟨rfl, rfl⟩
        clear HWR
        go_wp2_with fail
        go_ret
        exact ⟨D3, L3, _, H3.out, HC3.out, .inl ⟨rfl, rfl, HG.out⟩⟩
      | gone D3 h1 hg hx =>
        have HG : Hid (LayR D M f most n tx m u D3 { L with dead := true } false) := by
          rw [HSD.out] at hx
          exact .gone hg (HK.out.goneCp hm hu hx)
        clear h1 hg hx
        have HWR := Lib.hid (swrapNo wCp 2 (by decide))
        go_wp2_with fail
        refine (HWR.out _).mono ?_
        rintro e w9 ⟨rfl, rfl⟩
        clear HWR
        unfold sErr
        go_wp2_with fail
        go_ret
        exact ⟨D3, _, _, H3.out, HC3.out, .inr ⟨wCp, rfl, rfl, HG.out⟩⟩
    · have HRZ := Lib.hid hr
      go_wp2_with fail
      refine HRC.out.mono ?_
      rintro e w2 ⟨rfl, rfl⟩
      clear HRC
      go_wp2_with fail
      refine HRM.out.mono ?_
      rintro e w2 ⟨rfl, hb2⟩
      replace H1 := Lib.hid (H1.out.grow hb2)
      replace HC1 := Lib.hid (HC1.out.trans (Chg.of_below _ hb2))
      clear hb2 HRM q0 q1 q2 q3 q4
      obtain ⟨q0, q1, q2, q3, q4⟩ := HKB.out w2 HC1.out
      have HAP := Lib.hid (H1.out.appR HOK.out HAL.out HK.out.lc HFW.out.many s)
      go_wp2_with fail
      refine HAP.out.mono ?_
      rintro e w3 ⟨r, D3, L3, rfl, hat3, hc3, hr3⟩
      have H3 := Lib.hid hat3
      have HC3 := Lib.hid (HC1.out.trans hc3)
      clear hat3 hc3 HAP q0 q1 q2 q3 q4 hr
      cases hr3 with
      | long h1 => exact absurd h1 (by have := HSZ.out; omega)
      | full h1 h2 => exact absurd h2 (by rw [HLN.out, ← HZ.out]; have := HRZ.out; omega)
      | gone D3 h1 hg hx =>
        have HG : Hid (LayR D M f most n tx m u D3 { L with dead := true } false) := by
          obtain ⟨j, j1, j2, j3⟩ := hx
          rw [HSD.out] at j3
          exact .gone hg ((HK.out.goneApp hm hu (by have := HN16.out; have := HNP.out; omega) j1 j2 j3).imp (fun h => h.mono (Nat.le_succ _)) (fun h => h.mono (Nat.le_succ _)))
        clear h1 hg hx
        have HWR := Lib.hid (swrapNo wRec 2 (by decide))
        go_wp2_with fail
        refine (HWR.out _).mono ?_
        rintro e w9 ⟨rfl, rfl⟩
        clear HWR
        unfold sErr
        go_wp2_with fail
        go_ret
        exact ⟨D3, _, _, H3.out, HC3.out, .inr ⟨wRec, rfl, rfl, HG.out⟩⟩
      | ok D3 h1 ha hl =>
        have HA3 := Lib.hid ha
        have HL3 := Lib.hid hl
        have HW3 := Lib.hid (swrapOk wRec)
        have HSY := Lib.hid (H3.out.synR ha.ok ha.al hl)
        clear h1 ha hl
        obtain ⟨q0, q1, q2, q3, q4⟩ := HKB.out w3 HC3.out
        go_wp2_with fail
        refine (HW3.out _).mono ?_
        rintro e w4 ⟨rfl, rfl⟩
        clear HW3
        go_wp2_with fail
        refine HSY.out.mono ?_
        rintro e w5 ⟨r, D5, L5, rfl, hat5, hc5, hr5⟩
        have H5 := Lib.hid hat5
        have HC5 := Lib.hid (HC3.out.trans hc5)
        clear hat5 hc5 HSY q0 q1 q2 q3 q4
        cases hr5 with
        | ok D5 ha5 hl5 =>
          have HG : Hid (LayR D M f most n tx m u D5 { L with n := L.n + 1 } true) := by
            have hl5' := hl5
            rw [HSD.out] at hl5'
            exact .ok (HA3.out.trans ha5) ((HFW.out.alive HA3.out HL3.out (by rw [List.length_append, List.length_singleton]; have := HNP.out; omega)).alive ha5 hl5 (by rw [List.length_append, List.length_singleton]; have := HNP.out; omega)) ((HK.out.app hm hu (by have := HN16.out; have := HNP.out; omega) hl5').mono (Nat.le_succ _))
          clear ha5 hl5
          obtain ⟨q0, q1, q2, q3, q4⟩ := HKB.out w5 HC5.out
          have HWR := Lib.hid (swrapOk wSyn)
          go_wp2_with fail
          refine (HWR.out _).mono ?_
          rintro e w9 ⟨rfl, rfl⟩
          clear HWR
          go_wp2_with fail
          go_ret
          exact ⟨D5, _, _, H5.out, HC5.out, .inl ⟨rfl, rfl, HG.out⟩⟩
        | gone D5 hg5 hx5 =>
          have HG : Hid (LayR D M f most n tx m u D5 { { L with n := L.n + 1 } with dead := true } false) := by
            obtain ⟨j, j1, j2, j3⟩ := hx5
            rw [HSD.out] at j3
            rw [List.length_append, List.length_singleton] at j2
            exact .gone (HA3.out.gone hg5) ((HK.out.goneApp hm hu (by have := HN16.out; have := HNP.out; omega) j1 j2 j3).imp (fun h => h.mono (Nat.le_succ _)) (fun h => h.mono (Nat.le_succ _)))
          clear hg5 hx5
          have HWR := Lib.hid (swrapNo wSyn 2 (by decide))
          go_wp2_with fail
          refine (HWR.out _).mono ?_
          rintro e w9 ⟨rfl, rfl⟩
          clear HWR
          unfold sErr
          go_wp2_with fail
          go_ret
          exact ⟨D5, _, _, H5.out, HC5.out, .inr ⟨wSyn, rfl, rfl, HG.out⟩⟩
end Go.Proofs.YtilpbjcbffbjeaaGreatDoor
namespace Go.Proofs.YtilpbjcbffbjeaaGreatDoor
set_option linter.unusedVariables false
set_option maxRecDepth 100000
open Go.RowKit
set_option linter.unusedSectionVars false
variable [Avoid]
def lpV (o : Option Nat) : Value := .pointer (o.map fun b => ⟨b, 0, none⟩)
/-- A store's cells: the epochs' log, then the tenants'. -/
def stC (ten : Nat) (lp : Nat → Option Nat) (n : Nat → Nat) (tx : Nat → ByteArray) (dd : Bool) : Array Value :=
  #[.int .i64 (ten : Nat), lpV (lp 0), .int .i64 (n 0 : Nat), .string (tx 0), lpV (lp 1), .int .i64 (n 1 : Nat), .string (tx 1), lpV (lp 2), .int .i64 (n 2 : Nat), .string (tx 2), lpV (lp 3), .int .i64 (n 3 : Nat), .string (tx 3),
    lpV (lp 4), .int .i64 (n 4 : Nat), .string (tx 4), lpV (lp 5), .int .i64 (n 5 : Nat), .string (tx 5), lpV (lp 6), .int .i64 (n 6 : Nat), .string (tx 6), lpV (lp 7), .int .i64 (n 7 : Nat), .string (tx 7), lpV (lp 8), .int .i64 (n 8 : Nat), .string (tx 8), .bool dd]
def upd {α : Type} (f : Nat → α) (i : Nat) (x : α) : Nat → α := fun j => if j = i then x else f j
theorem upd_same {α : Type} (f : Nat → α) (i : Nat) (x : α) : upd f i x i = x := by unfold upd; rw [if_pos rfl]
theorem upd_other {α : Type} (f : Nat → α) {i j : Nat} (x : α) (h : j ≠ i) : upd f i x j = f j := by unfold upd; rw [if_neg h]
def IsSt (w : World) (sb ten : Nat) (lp : Nat → Option Nat) (n : Nat → Nat) (tx : Nat → ByteArray) (dd : Bool) : Prop := w.heap[sb]? = some (.cells (stC ten lp n tx dd) 116 (0, 0))
theorem upto8 {i : Nat} (h : i ≤ 8) : i = 0 ∨ i = 1 ∨ i = 2 ∨ i = 3 ∨ i = 4 ∨ i = 5 ∨ i = 6 ∨ i = 7 ∨ i = 8 := by omega
section
variable {S : Nat → Prop} {w w' : World} {sb ten i : Nat} {lp : Nat → Option Nat} {n : Nat → Nat} {tx : Nat → ByteArray} {dd : Bool}
theorem IsSt.lt (h : IsSt w sb ten lp n tx dd) : sb < w.heap.size := (Array.getElem?_eq_some_iff.1 h).1
theorem IsSt.free (h : IsSt w sb ten lp n tx dd) (j : Nat) : w.frozen? ⟨sb, j, none⟩ = false := frozen_of_row w sb j _ _ h
theorem IsSt.keep (h : IsSt w sb ten lp n tx dd) (hc : Chg S w w') (hn : ¬ S sb) : IsSt w' sb ten lp n tx dd := (hc.block sb h.lt hn).trans h
theorem IsSt.below (h : IsSt w sb ten lp n tx dd) (hb : Below w.heap.size w w') : IsSt w' sb ten lp n tx dd := (hb.block sb h.lt).trans h
theorem IsSt.c0 (h : IsSt w sb ten lp n tx dd) : w.cell? ⟨sb, 0, none⟩ = some (.int .i64 (ten : Nat)) := by rw [cell_of_row w sb 0 _ _ _ h]; rfl
theorem IsSt.cd (h : IsSt w sb ten lp n tx dd) : w.cell? ⟨sb, 28, none⟩ = some (.bool dd) := by rw [cell_of_row w sb 28 _ _ _ h]; rfl
theorem IsSt.cp (h : IsSt w sb ten lp n tx dd) (hi : i ≤ 8) : w.cell? ⟨sb, 1 + 3 * i, none⟩ = some (lpV (lp i)) := by
  rw [cell_of_row w sb _ _ _ _ h]
  rcases upto8 hi with rfl | rfl | rfl | rfl | rfl | rfl | rfl | rfl | rfl <;> rfl
theorem IsSt.cn (h : IsSt w sb ten lp n tx dd) (hi : i ≤ 8) : w.cell? ⟨sb, 1 + 3 * i + 1, none⟩ = some (.int .i64 (n i : Nat)) := by
  rw [cell_of_row w sb _ _ _ _ h]
  rcases upto8 hi with rfl | rfl | rfl | rfl | rfl | rfl | rfl | rfl | rfl <;> rfl
theorem IsSt.ct (h : IsSt w sb ten lp n tx dd) (hi : i ≤ 8) : w.cell? ⟨sb, 1 + 3 * i + 2, none⟩ = some (.string (tx i)) := by
  rw [cell_of_row w sb _ _ _ _ h]
  rcases upto8 hi with rfl | rfl | rfl | rfl | rfl | rfl | rfl | rfl | rfl <;> rfl
theorem IsSt.setD (h : IsSt w sb ten lp n tx dd) (x : Bool) : IsSt (w.setCell ⟨sb, 28, none⟩ (.bool x)) sb ten lp n tx x := by unfold IsSt; rw [setCell_blk w sb 28 _ h]; rfl
theorem IsSt.set (h : IsSt w sb ten lp n tx dd) (hi : i ≤ 8) (m : Nat) (u : ByteArray) : IsSt ((w.setCell ⟨sb, 1 + 3 * i + 1, none⟩ (.int .i64 (m : Nat))).setCell ⟨sb, 1 + 3 * i + 2, none⟩ (.string u)) sb ten lp (upd n i m) (upd tx i u) dd := by
  unfold IsSt
  have h1 := setCell_blk w sb (1 + 3 * i + 1) (.int .i64 (m : Nat)) h
  rw [setCell_blk _ sb (1 + 3 * i + 2) _ h1]
  rcases upto8 hi with rfl | rfl | rfl | rfl | rfl | rfl | rfl | rfl | rfl <;> rfl
theorem IsSt.setK (h : IsSt w sb ten lp n tx dd) (hi : i ≤ 8) (p : Option Nat) (m : Nat) (u : ByteArray) : IsSt (((w.setCell ⟨sb, 1 + 3 * i, none⟩ (lpV p)).setCell ⟨sb, 1 + 3 * i + 1, none⟩ (.int .i64 (m : Nat))).setCell ⟨sb, 1 + 3 * i + 2, none⟩ (.string u)) sb ten (upd lp i p) (upd n i m) (upd tx i u) dd := by
  unfold IsSt
  have h1 := setCell_blk w sb (1 + 3 * i) (lpV p) h
  have h2 := setCell_blk _ sb (1 + 3 * i + 1) (.int .i64 (m : Nat)) h1
  rw [setCell_blk _ sb (1 + 3 * i + 2) _ h2]
  rcases upto8 hi with rfl | rfl | rfl | rfl | rfl | rfl | rfl | rfl | rfl <;> rfl
theorem IsSt.muts (h : IsSt w sb ten lp n tx dd) : Muts (fun k => k = sb) w := by
  intro k _ hk cur T fr hh
  subst hk
  rw [show w.heap[k]? = _ from h] at hh
  injection hh with hh
  injection hh with _ hT _
  subst hT
  unfold Fix
  decide
theorem IsSt.neLog (h : IsSt w sb ten lp n tx dd) {lb b : Nat} {L : Lg} (hl : IsLog w lb b L) : sb ≠ lb := by
  rintro rfl
  have h1 := hl.blk
  rw [show w.heap[sb]? = _ from h] at h1
  injection h1 with h1
  injection h1 with _ hT _
  exact absurd hT (by decide)
theorem IsSt.ne {b g cap : Nat} {D : Dk} (h : IsSt w sb ten lp n tx dd) (hd : IsDisk w b g cap D) : sb ≠ b ∧ sb ≠ g := by
  constructor
  · rintro rfl
    obtain ⟨cv, h1, _⟩ := hd.blk
    rw [show w.heap[sb]? = _ from h] at h1
    injection h1 with h1
    injection h1 with _ hT _
    exact absurd hT (by decide)
  · rintro rfl
    obtain ⟨cv, h1, _⟩ := hd.fs.blk
    rw [show w.heap[sb]? = _ from h] at h1
    injection h1 with h1
    injection h1 with _ hT _
    exact absurd hT (by decide)
theorem sepochW (h : IsSt w sb ten lp n tx dd) : Calls Tryz.prog 22 #[.pointer (some ⟨sb, 0, none⟩)] w fun e w' => e = .returned (.int .i64 (n 0 : Nat)) ∧ w' = w := by
  have c := h.cn (i := 0) (by decide)
  go_enter Tryz.func22, Tryz.ntmps22
  go_wp2
  go_ret
  exact ⟨rfl, rfl⟩
theorem sdeadW (h : IsSt w sb ten lp n tx dd) : Calls Tryz.prog 45 #[.pointer (some ⟨sb, 0, none⟩)] w fun e w' => e = .returned (.bool dd) ∧ w' = w := by
  have c := h.cd
  go_enter Tryz.func45, Tryz.ntmps45
  go_wp2
  go_ret
  exact ⟨rfl, rfl⟩
theorem stenantsW (h : IsSt w sb ten lp n tx dd) : Calls Tryz.prog 81 #[.pointer (some ⟨sb, 0, none⟩)] w fun e w' => e = .returned (.int .i64 (ten : Nat)) ∧ w' = w := by
  have c := h.c0
  go_enter Tryz.func81, Tryz.ntmps81
  go_wp2
  go_ret
  exact ⟨rfl, rfl⟩
theorem sisW (h : IsSt w sb ten lp n tx dd) (t : Int) : Calls Tryz.prog 57 #[.pointer (some ⟨sb, 0, none⟩), .int .i64 t] w fun e w' => e = .returned (.bool (decide (0 ≤ t ∧ t < (ten : Int)))) ∧ w' = w := by
  have c := h.c0
  by_cases h1 : 0 ≤ t
  · by_cases h2 : t < (ten : Int)
    · rw [decide_eq_true (And.intro h1 h2)]
      go_enter Tryz.func57, Tryz.ntmps57
      go_wp2
      go_ret
      exact ⟨rfl, rfl⟩
    · rw [decide_eq_false (fun h => h2 h.2)]
      go_enter Tryz.func57, Tryz.ntmps57
      go_wp2
      go_ret
      exact ⟨rfl, rfl⟩
  · rw [decide_eq_false (fun h => h1 h.1)]
    go_enter Tryz.func57, Tryz.ntmps57
    go_wp2
    go_ret
    exact ⟨rfl, rfl⟩
theorem IsSt.gp (h : IsSt w sb ten lp n tx dd) {t : Nat} (ht : t < 8) : w.cell? ⟨sb, 4 + t * 3, none⟩ = some (lpV (lp (t + 1))) := by
  have c := h.cp (i := t + 1) (by omega)
  rwa [show 1 + 3 * (t + 1) = 4 + t * 3 by omega] at c
theorem IsSt.gn (h : IsSt w sb ten lp n tx dd) {t : Nat} (ht : t < 8) : w.cell? ⟨sb, 4 + t * 3 + 1, none⟩ = some (.int .i64 (n (t + 1) : Nat)) := by
  have c := h.cn (i := t + 1) (by omega)
  rwa [show 1 + 3 * (t + 1) = 4 + t * 3 by omega] at c
theorem IsSt.gt (h : IsSt w sb ten lp n tx dd) {t : Nat} (ht : t < 8) : w.cell? ⟨sb, 4 + t * 3 + 2, none⟩ = some (.string (tx (t + 1))) := by
  have c := h.ct (i := t + 1) (by omega)
  rwa [show 1 + 3 * (t + 1) = 4 + t * 3 by omega] at c
theorem IsSt.gset (h : IsSt w sb ten lp n tx dd) {t : Nat} (ht : t < 8) (m : Nat) (u : ByteArray) : IsSt ((w.setCell ⟨sb, 4 + t * 3 + 1, none⟩ (.int .i64 (m : Nat))).setCell ⟨sb, 4 + t * 3 + 2, none⟩ (.string u)) sb ten lp (upd n (t + 1) m) (upd tx (t + 1) u) dd := by
  have c := h.set (i := t + 1) (by omega) m u
  rwa [show 1 + 3 * (t + 1) = 4 + t * 3 by omega] at c
theorem IsSt.gsetK (h : IsSt w sb ten lp n tx dd) {t : Nat} (ht : t < 8) (p : Option Nat) (m : Nat) (u : ByteArray) : IsSt (((w.setCell ⟨sb, 4 + t * 3, none⟩ (lpV p)).setCell ⟨sb, 4 + t * 3 + 1, none⟩ (.int .i64 (m : Nat))).setCell ⟨sb, 4 + t * 3 + 2, none⟩ (.string u)) sb ten (upd lp (t + 1) p) (upd n (t + 1) m) (upd tx (t + 1) u) dd := by
  have c := h.setK (i := t + 1) (by omega) p m u
  rwa [show 1 + 3 * (t + 1) = 4 + t * 3 by omega] at c
set_option maxHeartbeats 1000000 in
theorem sgenW (h : IsSt w sb ten lp n tx dd) (h8 : ten ≤ 8) (t : Nat) (ht : t < ten) : Calls Tryz.prog 16 #[.pointer (some ⟨sb, 0, none⟩), .int .i64 (t : Nat)] w fun e w' => e = .returned (.int .i64 (n (t + 1) : Nat)) ∧ w' = w := by
  have HI := Lib.hid (sisW h (t : Nat))
  rw [decide_eq_true (by omega)] at HI
  have HG := Lib.hid (h.gn (t := t) (by omega))
  have ht8 : (t : Int) < 8 := by omega
  go_enter Tryz.func16, Tryz.ntmps16
  go_wp2_with fail
  refine HI.out.mono ?_
  rintro e w1 ⟨rfl, rfl⟩
  clear HI
  have c := HG.out
  go_wp2_with fail
  go_ret
  exact ⟨rfl, rfl⟩
set_option maxHeartbeats 1000000 in
theorem stextW (h : IsSt w sb ten lp n tx dd) (h8 : ten ≤ 8) (t : Nat) (ht : t < ten) : Calls Tryz.prog 25 #[.pointer (some ⟨sb, 0, none⟩), .int .i64 (t : Nat)] w fun e w' => e = .returned (.string (tx (t + 1))) ∧ w' = w := by
  have HI := Lib.hid (sisW h (t : Nat))
  rw [decide_eq_true (by omega)] at HI
  have HG := Lib.hid (h.gt (t := t) (by omega))
  have ht8 : (t : Int) < 8 := by omega
  go_enter Tryz.func25, Tryz.ntmps25
  go_wp2_with fail
  refine HI.out.mono ?_
  rintro e w1 ⟨rfl, rfl⟩
  clear HI
  have c := HG.out
  go_wp2_with fail
  go_ret
  exact ⟨rfl, rfl⟩
theorem stextNo (h : IsSt w sb ten lp n tx dd) (t : Int) (ht : ¬ (0 ≤ t ∧ t < (ten : Int))) : Calls Tryz.prog 25 #[.pointer (some ⟨sb, 0, none⟩), .int .i64 t] w fun e w' => e = .returned (.string ⟨#[]⟩) ∧ w' = w := by
  have HI := Lib.hid (sisW h t)
  rw [decide_eq_false ht] at HI
  go_enter Tryz.func25, Tryz.ntmps25
  go_wp2_with fail
  refine HI.out.mono ?_
  rintro e w1 ⟨rfl, rfl⟩
  clear HI
  go_wp2_with fail
  go_ret
  exact ⟨rfl, rfl⟩
end
end Go.Proofs.YtilpbjcbffbjeaaGreatDoor
namespace Go.Proofs.YtilpbjcbffbjeaaGreatDoor
set_option linter.unusedVariables false
set_option maxRecDepth 100000
open Go.RowKit
set_option linter.unusedSectionVars false
variable [Avoid]
theorem sasNil (t : Value) (w : World) : Calls Tryz.prog 87 #[.nilIface, t] w fun e w' => e = .returned (.bool false) ∧ w' = w := by
  go_enter Tryz.func87, Tryz.ntmps87
  go_wp2
  go_ret
  exact ⟨rfl, rfl⟩
theorem sfoundNil (w : World) : Calls Tryz.prog 52 #[.nilIface] w fun ev w' => ev = .returned (.int .i64 0) ∧ Below w.heap.size w w' := by
  have ha := Lib.hid (fun t w => sasNil t w)
  go_enter Tryz.func52, Tryz.ntmps52
  go_wp2_with (go_at_call 87; refine (ha.out _ _).mono ?_; rintro ev w' ⟨rfl, rfl⟩)
  go_ret
  exact ⟨rfl, (Below.refl _ _).alloc (Nat.le_refl _) _⟩
/-- What a commit is answered, where the power stays. -/
def cRes (ten : Nat) (n : Nat → Nat) (t gen : Int) (u : ByteArray) : Int :=
  if ¬ (0 ≤ t ∧ t < (ten : Int)) then 180 else if 16000 < u.size then 182 else if gen ≠ (n (t.toNat + 1) : Nat) then 183 else if 1099511627776 ≤ gen then 172 else 0
set_option maxHeartbeats 2000000 in
theorem scommitNo {w : World} {sb ten : Nat} {lp : Nat → Option Nat} {n : Nat → Nat} {tx : Nat → ByteArray} (h : IsSt w sb ten lp n tx false) (h8 : ten ≤ 8) (t gen : Int) (u : ByteArray) (hr : cRes ten n t gen u ≠ 0) :
    Calls Tryz.prog 15 #[.pointer (some ⟨sb, 0, none⟩), .int .i64 t, .int .i64 gen, .string u] w fun e w' => e = .returned (.int .i64 (cRes ten n t gen u)) ∧ w' = w := by
  have HI := Lib.hid (sisW h t)
  have cd := h.cd
  by_cases h1 : 0 ≤ t ∧ t < (ten : Int)
  · rw [decide_eq_true h1] at HI
    obtain ⟨k, hk⟩ : ∃ k : Nat, t = (k : Int) := ⟨t.toNat, by omega⟩
    subst hk
    have hk8 : (k : Int) < 8 := by omega
    have hk0 : (0 : Int) ≤ (k : Int) := by omega
    have HG := Lib.hid (h.gn (t := k) (by omega))
    by_cases h2 : 16000 < u.size
    · have e : cRes ten n k gen u = 182 := by unfold cRes; rw [if_neg (by omega), if_pos h2]
      rw [e]
      have hi2 : (16000 : Int) < (u.size : Int) := by omega
      clear h1 h2 hr e
      go_enter Tryz.func15, Tryz.ntmps15
      go_wp2_with fail
      refine HI.out.mono ?_
      rintro e w1 ⟨rfl, rfl⟩
      go_wp2_with fail
      go_ret
      exact ⟨rfl, rfl⟩
    · have hi2 : ¬ (16000 : Int) < (u.size : Int) := by omega
      by_cases h3 : gen = (n (k + 1) : Nat)
      · have h4 : 1099511627776 ≤ gen := by
          refine Decidable.byContradiction fun h4 => hr ?_
          unfold cRes; rw [if_neg (by omega), if_neg h2, if_neg (by simpa using h3), if_neg h4]
        have e : cRes ten n k gen u = 172 := by unfold cRes; rw [if_neg (by omega), if_neg h2, if_neg (by simpa using h3), if_pos h4]
        rw [e]
        have HG2 := HG
        rw [← h3] at HG2
        clear h1 h2 hr e h3 HG
        go_enter Tryz.func15, Tryz.ntmps15
        go_wp2_with fail
        refine HI.out.mono ?_
        rintro e w1 ⟨rfl, rfl⟩
        have c := HG2.out
        go_wp2_with fail
        go_ret
        exact ⟨rfl, rfl⟩
      · have e : cRes ten n k gen u = 183 := by unfold cRes; rw [if_neg (by omega), if_neg h2, if_pos (by simpa using h3)]
        rw [e]
        obtain ⟨z, hz⟩ : ∃ z : Int, z = (n (k + 1) : Nat) := ⟨_, rfl⟩
        rw [← hz] at HG h3
        have hb : (gen != z) = true := by rw [bne_iff_ne]; exact h3
        clear h1 h2 hr e h3 hz
        go_enter Tryz.func15, Tryz.ntmps15
        go_wp2_with fail
        refine HI.out.mono ?_
        rintro e w1 ⟨rfl, rfl⟩
        have c := HG.out
        go_wp2_with fail
        go_ret
        exact ⟨rfl, rfl⟩
  · rw [decide_eq_false h1] at HI
    have e : cRes ten n t gen u = 180 := by unfold cRes; rw [if_pos h1]
    rw [e]
    clear h1 hr e
    go_enter Tryz.func15, Tryz.ntmps15
    go_wp2_with fail
    refine HI.out.mono ?_
    rintro e w1 ⟨rfl, rfl⟩
    go_wp2_with fail
    go_ret
    exact ⟨rfl, rfl⟩
/-- The first file of a log; how long its texts may be. -/
def fiS (i : Nat) : Nat := 3 * i - 1
def moS (i : Nat) : Nat := if i = 0 then 0 else 16000
def lpS (ten : Nat) (lb : Nat → Nat) : Nat → Option Nat := fun i => if i ≤ ten then some (lb i) else none
/-- A store that works on its disk. -/
structure StA (B : Nat) (w0 : World) (b g cap sb ten : Nat) (D : Dk) (M : Nat) (lb : Nat → Nat) (L : Nat → Lg) (n : Nat → Nat) (tx : Nat → ByteArray) (w : World) : Prop where
  on : At B w0 b g cap D w
  st : IsSt w sb ten (lpS ten lb) n tx false
  sB : B ≤ sb
  lg : ∀ i, i ≤ ten → IsLog w (lb i) b (L i) ∧ B ≤ lb i
  inj : ∀ i j, i ≤ ten → j ≤ ten → i ≠ j → lb i ≠ lb j
  t8 : ten ≤ 8
  ok : DOk D
  al : D.dead = false
  few : FewS D
  kp : ∀ i, i ≤ ten → Kp D.l M (fiS i) (moS i) (L i) (n i) (tx i)
theorem fiS_far {i j : Nat} (h : i ≠ j) : fiS i ≠ fiS j ∧ fiS i ≠ fiS j + 1 ∧ fiS i + 1 ≠ fiS j := by unfold fiS; omega
/-- What a store's blocks are that a lay changes. -/
def SS (lb : Nat → Nat) (i b g sb : Nat) : Nat → Prop := fun k => k = lb i ∨ k = b ∨ k = g ∨ k = sb
section
variable {B b g cap sb ten M : Nat} {w0 w w' : World} {D : Dk} {lb : Nat → Nat} {L : Nat → Lg} {n : Nat → Nat} {tx : Nat → ByteArray}
theorem StA.grow (h : StA B w0 b g cap sb ten D M lb L n tx w) (hb : Below w.heap.size w w') : StA B w0 b g cap sb ten D M lb L n tx w' :=
  ⟨h.on.grow hb, h.st.below hb, h.sB, fun i hi => ⟨(h.lg i hi).1.below hb, (h.lg i hi).2⟩, h.inj, h.t8, h.ok, h.al, h.few, h.kp⟩
theorem IsLog.mutsL {w : World} {lb b : Nat} {L : Lg} (h : IsLog w lb b L) : Muts (fun k => k = lb) w := by
  intro k _ hk cur T fr hh
  subst hk
  rw [h.blk] at hh
  injection hh with hh
  injection hh with _ hT _
  subst hT
  unfold Fix
  decide
/-- Behind a lay of an entry that came through. -/
theorem StA.laid (h : StA B w0 b g cap sb ten D M lb L n tx w) {i : Nat} (hi : i ≤ ten) {D' : Dk} {L' : Lg} {w2 : World} (hat : LAt B w0 b g cap (lb i) D' L' w2) (hc : Chg (fun k => k = lb i ∨ k = b ∨ k = g) w w2) {m : Nat} {u : ByteArray} (hr : LayR D M (fiS i) (moS i) (n i) (tx i) m u D' L' true) :
    ∃ w', w' = (w2.setCell ⟨sb, 1 + 3 * i + 1, none⟩ (.int .i64 (m : Nat))).setCell ⟨sb, 1 + 3 * i + 2, none⟩ (.string u) ∧ StA B w0 b g cap sb ten D' (M + 1) lb (upd L i L') (upd n i m) (upd tx i u) w' ∧ Chg (SS lb i b g sb) w w' ∧ Alive D D' (fiS i) := by
  have hi8 : i ≤ 8 := Nat.le_trans hi h.t8
  have hst2 := h.st.keep hc (by have h1 := h.st.neLog (h.lg i hi).1; have h2 := h.st.ne h.on.disk; omega)
  have hne := hst2.ne hat.on.disk
  cases hr with
  | ok ha hfw hkp =>
    have hcs1 : Chg (fun k => k = sb) w2 (w2.setCell ⟨sb, 1 + 3 * i + 1, none⟩ (.int .i64 (m : Nat))) := Chg.setCell (fun k => k = sb) w2 rfl _
    have hcs2 : Chg (fun k => k = sb) (w2.setCell ⟨sb, 1 + 3 * i + 1, none⟩ (.int .i64 (m : Nat))) ((w2.setCell ⟨sb, 1 + 3 * i + 1, none⟩ (.int .i64 (m : Nat))).setCell ⟨sb, 1 + 3 * i + 2, none⟩ (.string u)) := Chg.setCell (fun k => k = sb) _ rfl _
    have hcs := hcs1.trans hcs2
    have hBw : B ≤ w2.heap.size := Nat.le_trans hat.on.le hat.on.below.size
    refine ⟨_, rfl, ⟨⟨hat.on.disk.keep hcs (fun e => hne.1 e.symm) (fun e => hne.2 e.symm) hst2.muts, hat.on.below.trans (hcs.below hBw (fun k hk e => by have := h.sB; omega)), hat.on.bB, hat.on.gB, hat.on.le⟩, hst2.set hi8 m u, h.sB, ?_, h.inj, h.t8, ha.ok, ha.al, hfw, ?_⟩, (hc.mono fun k _ e => by unfold SS; omega).trans (hcs.mono fun k _ e => .inr (.inr (.inr e))), ha⟩
    · intro j hj
      by_cases e : j = i
      · subst e
        rw [upd_same]
        exact ⟨hat.log.keep hcs (fun e => hst2.neLog hat.log e.symm), (h.lg j hj).2⟩
      · rw [upd_other _ _ e]
        have h1 := (h.lg j hj).1.keep hc (by have h2 := h.inj j i hj hi e; have h3 := (h.lg j hj).1.ne h.on.disk; omega)
        exact ⟨h1.keep hcs (fun e => hst2.neLog h1 e.symm), (h.lg j hj).2⟩
    · intro j hj
      by_cases e : j = i
      · subst e
        rw [upd_same, upd_same, upd_same]
        exact hkp
      · rw [upd_other _ _ e, upd_other _ _ e, upd_other _ _ e]
        obtain ⟨f1, f2, f3⟩ := fiS_far e
        exact ((h.kp j hj).alive ha f1 f2 f3).mono (Nat.le_succ _)
theorem StA.setD (h : StA B w0 b g cap sb ten D M lb L n tx w) : StA B w0 b g cap sb ten D M lb L n tx (w.setCell ⟨sb, 28, none⟩ (.bool false)) := by
  have hcs : Chg (fun k => k = sb) w (w.setCell ⟨sb, 28, none⟩ (.bool false)) := Chg.setCell (fun k => k = sb) w rfl _
  have hne := h.st.ne h.on.disk
  have hBw : B ≤ w.heap.size := Nat.le_trans h.on.le h.on.below.size
  exact ⟨⟨h.on.disk.keep hcs (fun e => hne.1 e.symm) (fun e => hne.2 e.symm) h.st.muts, h.on.below.trans (hcs.below hBw (fun k hk e => by have := h.sB; omega)), h.on.bB, h.on.gB, h.on.le⟩, h.st.setD false, h.sB, fun i hi => ⟨(h.lg i hi).1.keep hcs (fun e => h.st.neLog (h.lg i hi).1 e.symm), (h.lg i hi).2⟩, h.inj, h.t8, h.ok, h.al, h.few, h.kp⟩
theorem StA.layCall (h : StA B w0 b g cap sb ten D M lb L n tx w) {i : Nat} (hi : i ≤ ten) (hM : M < 1099511627776) (m : Nat) (u : ByteArray) (hm : m ≤ 1099511627776) (hu : u.size ≤ moS i) :
    Calls Tryz.prog 58 #[.pointer (some ⟨sb, 1 + 3 * i, none⟩), .int .i64 (m : Nat), .string u] w fun e w' => ∃ D' L' w2, LAt B w0 b g cap (lb i) D' L' w2 ∧ Chg (fun k => k = lb i ∨ k = b ∨ k = g) w w2 ∧
      ((e = .returned .nilIface ∧ w' = (w2.setCell ⟨sb, 1 + 3 * i + 1, none⟩ (.int .i64 (m : Nat))).setCell ⟨sb, 1 + 3 * i + 2, none⟩ (.string u) ∧ LayR D M (fiS i) (moS i) (n i) (tx i) m u D' L' true) ∨
       (∃ word, e = .returned (sErr word 2) ∧ w' = w2 ∧ LayR D M (fiS i) (moS i) (n i) (tx i) m u D' L' false)) := by
  have hi8 : i ≤ 8 := Nat.le_trans hi h.t8
  obtain ⟨snap, ps, hk⟩ := h.kp i hi
  have h1 := h.st.neLog (h.lg i hi).1
  have h2 := h.st.ne h.on.disk
  have hp := h.st.cp hi8
  unfold lpS at hp
  rw [if_pos hi] at hp
  exact slayX ⟨h.on, (h.lg i hi).1, (h.lg i hi).2⟩ ⟨h1, h2.1, h2.2⟩ _ _ hp (h.st.cn hi8) (h.st.ct hi8) h.st.free h.ok h.al hk h.few hM m u hm hu (by unfold moS; split <;> omega)
/-- What a commit comes to that is not refused. -/
def CommR (B : Nat) (w0 : World) (b g cap sb ten : Nat) (D : Dk) (M : Nat) (lb : Nat → Nat) (L : Nat → Lg) (n : Nat → Nat) (tx : Nat → ByteArray) (i : Nat) (u : ByteArray) (w : World) (e : Ending) (w' : World) : Prop :=
  ∃ D' L', (e = .returned (.int .i64 0) ∧ StA B w0 b g cap sb ten D' (M + 1) lb (upd L i L') (upd n i (n i + 1)) (upd tx i u) w' ∧ Chg (SS lb i b g sb) w w' ∧ Alive D D' (fiS i)) ∨
    (e = .returned (.int .i64 2) ∧ At B w0 b g cap D' w' ∧ IsSt w' sb ten (lpS ten lb) n tx true ∧ Chg (SS lb i b g sb) w w' ∧ GoneD D D' (fiS i) ∧ (Rs D'.l (M + 1) (fiS i) (moS i) (n i) (tx i) ∨ Rs D'.l (M + 1) (fiS i) (moS i) (n i + 1) u))
set_option maxHeartbeats 2000000 in
theorem StA.commit (h : StA B w0 b g cap sb ten D M lb L n tx w) (hM : M < 1099511627776) (t : Nat) (ht : t < ten) (u : ByteArray) (hu : u.size ≤ 16000) (hg : n (t + 1) < 1099511627776)
    (HF : D.armed ≠ 0 → ∀ (word : ByteArray) (w' : World), Chg (fun k => k = lb (t + 1) ∨ k = b ∨ k = g) w w' → Calls Tryz.prog 52 #[sErr word 2] w' fun e w'' => e = .returned (.int .i64 2) ∧ Below w'.heap.size w' w'') :
    Calls Tryz.prog 15 #[.pointer (some ⟨sb, 0, none⟩), .int .i64 (t : Nat), .int .i64 (n (t + 1) : Nat), .string u] w (CommR B w0 b g cap sb ten D M lb L n tx (t + 1) u w) := by
  have HH := Lib.hid h
  have HI := Lib.hid (sisW h.st (t : Nat))
  rw [decide_eq_true (by omega)] at HI
  have h8 := h.t8
  have cd := h.st.cd
  have HG := Lib.hid (h.st.gn (t := t) (by omega))
  have HL := Lib.hid (h.layCall (i := t + 1) (by omega) hM (n (t + 1) + 1) u (by omega) (by unfold moS; rw [if_neg (by omega)]; exact hu))
  rw [show 1 + 3 * (t + 1) = 4 + t * 3 by omega] at HL
  obtain ⟨z, hz⟩ : ∃ z, z = n (t + 1) := ⟨_, rfl⟩
  have HZ := Lib.hid hz
  rw [← hz] at HG HL hg ⊢
  have HFF := Lib.hid HF
  have hi8 : (t : Int) < 8 := by omega
  have hi0 : (0 : Int) ≤ (t : Int) := by omega
  have hgi : ¬ (1099511627776 : Int) ≤ (z : Int) := by omega
  have hui : ¬ (16000 : Int) < (u.size : Int) := by omega
  have hci : ((z : Int) + 1) = ((z + 1 : Nat) : Int) := by omega
  rw [← hci] at HL
  obtain ⟨zi, hzi⟩ : ∃ zi : Int, zi = (z : Int) := ⟨_, rfl⟩
  have HZI := Lib.hid hzi
  have HCI := Lib.hid hci
  rw [← hzi] at HG HL hgi ⊢
  have hz0 : 0 ≤ zi := by omega
  clear h hz HF hci hzi hg
  go_enter Tryz.func15, Tryz.ntmps15
  go_wp2_with fail
  refine HI.out.mono ?_
  rintro e w1 ⟨rfl, rfl⟩
  clear HI
  have c := HG.out
  go_wp2_with fail
  refine HL.out.mono ?_
  rintro e w2 ⟨D2, L2, w3, hat, hc, ⟨rfl, rfl, hr⟩ | ⟨word, rfl, rfl, hr⟩⟩
  · rw [HZ.out] at hr
    obtain ⟨wl, hwl, hst, hch, hal⟩ := HH.out.laid (i := t + 1) (by omega) hat hc hr
    rw [show 1 + 3 * (t + 1) = 4 + t * 3 by omega, ← HZ.out, ← HCI.out, ← HZI.out] at hwl
    rw [← hwl]
    have HS := Lib.hid hst
    have HC := Lib.hid hch
    have HA := Lib.hid hal
    clear hat hc hr hst hch hal hwl c cd HL
    go_wp2_with fail
    refine (sfoundNil _).mono ?_
    rintro e w4 ⟨rfl, hb⟩
    have HS4 := Lib.hid (HS.out.grow hb)
    have HC4 := Lib.hid (HC.out.trans (Chg.of_below (SS lb (t + 1) b g sb) hb))
    clear hb HS HC
    have cd := HS4.out.st.cd
    have fd := HS4.out.st.free 28
    go_wp2_with fail
    go_ret
    refine ⟨D2, L2, .inl ⟨rfl, ?_, HC4.out.trans (Chg.setCell (SS lb (t + 1) b g sb) _ (.inr (.inr (.inr rfl))) _), HA.out⟩⟩
    exact HS4.out.setD
  · cases hr with
    | gone hg hrs =>
      have hst2 := HH.out.st.keep hc (by have h1 := HH.out.st.neLog (HH.out.lg (t + 1) (by omega)).1; have h2 := HH.out.st.ne HH.out.on.disk; omega)
      have HS := Lib.hid hst2
      have HAT := Lib.hid hat.on
      have HGO := Lib.hid hg
      have HRS := Lib.hid hrs
      have HC := Lib.hid (hc.mono (S' := SS lb (t + 1) b g sb) fun k _ e => by unfold SS; omega)
      have HFO := Lib.hid (HFF.out hg.ar word _ hc)
      clear hat hc hg hrs hst2 c cd HL
      go_wp2_with fail
      refine HFO.out.mono ?_
      rintro e w4 ⟨rfl, hb⟩
      have HS4 := Lib.hid (HS.out.below hb)
      have HA4 := Lib.hid (HAT.out.grow hb)
      have HC4 := Lib.hid (HC.out.trans (Chg.of_below (SS lb (t + 1) b g sb) hb))
      clear hb HS HC HAT HFO
      have cd := HS4.out.cd
      have fd := HS4.out.free 28
      have HCS : Hid (Chg (fun k => k = sb) w4 (w4.setCell ⟨sb, 28, none⟩ (.bool true))) := Chg.setCell (fun k => k = sb) w4 rfl _
      go_wp2_with fail
      go_ret
      have hne := HS4.out.ne HA4.out.disk
      have hBw : B ≤ w4.heap.size := Nat.le_trans HA4.out.le HA4.out.below.size
      refine ⟨D2, L2, .inr ⟨rfl, ⟨HA4.out.disk.keep HCS.out (fun e => hne.1 e.symm) (fun e => hne.2 e.symm) HS4.out.muts, HA4.out.below.trans (HCS.out.below hBw (fun k hk e => by have := HH.out.sB; omega)), HA4.out.bB, HA4.out.gB, HA4.out.le⟩, HS4.out.setD true, HC4.out.trans (HCS.out.mono fun k _ e => .inr (.inr (.inr e))), HGO.out, ?_⟩⟩
      have h9 := HRS.out
      rw [HZ.out] at h9
      exact h9
end
end Go.Proofs.YtilpbjcbffbjeaaGreatDoor
