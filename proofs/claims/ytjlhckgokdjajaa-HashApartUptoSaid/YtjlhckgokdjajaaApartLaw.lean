/- The walk of HashApart. -/
import Derived.Test.YtjlhckgokdjajaaDuo
import Derived.Test.YtjlhckgokdjajaaFixed
import Derived.Deep.DeepCutAuto
namespace Go.Proofs.Ytjlhckgokdjajaa
open Go.RowKit
/-- The bytes of the strings at even places, and at odd ones, ahead of place i. -/
def ev (ss : List ByteArray) : Nat → List Nat
  | 0 => []
  | i + 1 => if i % 2 = 0 then ev ss i ++ bs (ss.getD i ByteArray.empty) else ev ss i
def od (ss : List ByteArray) : Nat → List Nat
  | 0 => []
  | i + 1 => if i % 2 = 0 then od ss i else od ss i ++ bs (ss.getD i ByteArray.empty)
theorem ev_succ (ss : List ByteArray) (i : Nat) : ev ss (i + 1) = if i % 2 = 0 then ev ss i ++ bs (ss.getD i ByteArray.empty) else ev ss i := rfl
theorem od_succ (ss : List ByteArray) (i : Nat) : od ss (i + 1) = if i % 2 = 0 then od ss i else od ss i ++ bs (ss.getD i ByteArray.empty) := rfl
theorem ev_od_len (ss : List ByteArray) : ∀ i, i ≤ ss.length → (ev ss i).length + (od ss i).length = (cat (ss.take i)).length
  | 0, _ => by simp [ev, od, cat_nil]
  | i + 1, h => by
    have ih := ev_od_len ss i (by omega)
    rw [cat_take_succ ss i (by omega), List.length_append, ← ih]
    rw [ev_succ, od_succ]
    by_cases h2 : i % 2 = 0
    · rw [if_pos h2, if_pos h2, List.length_append]; omega
    · rw [if_neg h2, if_neg h2, List.length_append]; omega
theorem ev_lt (ss : List ByteArray) : ∀ i, ∀ c ∈ ev ss i, c < 256
  | 0, c, h => by simp [ev] at h
  | i + 1, c, h => by
    unfold ev at h
    split at h
    · rcases List.mem_append.1 h with h | h
      · exact ev_lt ss i c h
      · exact bs_lt _ c h
    · exact ev_lt ss i c h
theorem od_lt (ss : List ByteArray) : ∀ i, ∀ c ∈ od ss i, c < 256
  | 0, c, h => by simp [od] at h
  | i + 1, c, h => by
    unfold od at h
    split at h
    · exact od_lt ss i c h
    · rcases List.mem_append.1 h with h | h
      · exact od_lt ss i c h
      · exact bs_lt _ c h
/-- Two slices of the call's own, apart. -/
structure Two (w : World) (base : Nat) (v1 : Value) (l1 : List Nat) (v2 : Value) (l2 : List Nat) : Prop where
  o1 : Owns w base 5 v1 l1
  o2 : Owns w base 5 v2 l2
  ne : ∀ g, v1.ownBlock = some g → v2.ownBlock ≠ some g
  bs : base ≤ w.heap.size
section
variable {w w' : World} {base : Nat} {v1 v2 v' : Value} {l1 l2 l' : List Nat}
theorem Two.below (h : Two w base v1 l1 v2 l2) (hb : Below w.heap.size w w') : Two w' base v1 l1 v2 l2 := ⟨h.o1.below hb, h.o2.below hb, h.ne, Nat.le_trans h.bs hb.size⟩
theorem Two.old (h : Two w base v1 l1 v2 l2) {b : Nat} (hg : w.grownBy w' (some b)) (hb : b < base) : Two w' base v1 l1 v2 l2 :=
  ⟨h.o1.grown hg (.inr (fun e => by have := (h.o1.block e).1; omega)), h.o2.grown hg (.inr (fun e => by have := (h.o2.block e).1; omega)), h.ne, Nat.le_trans h.bs hg.size⟩
theorem Two.own (h : Two w base v1 l1 v2 l2) {b : Nat} (hg : w.grownBy w' (some b)) (h1 : v1.ownBlock ≠ some b) (h2 : v2.ownBlock ≠ some b) : Two w' base v1 l1 v2 l2 :=
  ⟨h.o1.grown hg (.inr h1), h.o2.grown hg (.inr h2), h.ne, Nat.le_trans h.bs hg.size⟩
theorem Two.one (h : Two w base v1 l1 v2 l2) (hg : w.grownBy w' v1.ownBlock) (ho : Owns w' base 5 v' l') (hv : v'.ownBlock = v1.ownBlock ∨ v'.ownBlock = some w.heap.size) : Two w' base v' l' v2 l2 :=
  ⟨ho, h.o2.grown hg (by
    cases hb : v2.ownBlock with
    | none => exact .inl rfl
    | some g => exact .inr (fun e => h.ne g e.symm hb)), fun g hg1 hg2 => by
    rcases hv with e | e
    · exact h.ne g (e ▸ hg1) hg2
    · have := (h.o2.block hg2).2
      rw [e] at hg1
      injection hg1 with hg1
      omega, Nat.le_trans h.bs hg.size⟩
theorem Two.two (h : Two w base v1 l1 v2 l2) (hg : w.grownBy w' v2.ownBlock) (ho : Owns w' base 5 v' l') (hv : v'.ownBlock = v2.ownBlock ∨ v'.ownBlock = some w.heap.size) : Two w' base v1 l1 v' l' :=
  ⟨h.o1.grown hg (by
    cases hb : v1.ownBlock with
    | none => exact .inl rfl
    | some g => exact .inr (fun e => h.ne g hb e.symm)), ho, fun g hg1 hg2 => by
    rcases hv with e | e
    · exact h.ne g hg1 (e ▸ hg2)
    · have := (h.o1.block hg1).2
      rw [e] at hg2
      injection hg2 with hg2
      omega, Nat.le_trans h.bs hg.size⟩
end
theorem not_empty (s : ByteArray) (h : 0 < s.size) : s.toList.isEmpty = false := by
  cases hh : s.toList with
  | nil => exact absurd (show s.size = 0 by rw [Lib.size_eq, ← Lib.toList_data, hh]; rfl) (by omega)
  | cons _ _ => rfl
theorem spoilt_size : (⟨#[115, 112, 111, 105, 108, 116]⟩ : ByteArray).size = 6 := rfl
set_option maxRecDepth 100000 in
set_option maxHeartbeats 800000 in
theorem apartK (l : Value) (ss : List ByteArray) (w : World)
    (hl : Strs w l ss) (hss : (cat ss).length ≤ 70368744177664) (hn : ss.length ≤ 70368744177664) :
    Calls Try.prog 10 #[l] w fun e w' => e = .returned (.bool true) ∧ Below w.heap.size w w' := by
  have HSS := Lib.hid hss
  obtain ⟨pl, cl, rfl, hcl⟩ := hl.form
  have HCL := Lib.hid hcl
  clear hss hl hcl
  go_enter Try.func10, Try.ntmps10
  go_wp2_with fail
  refine (newK 0 (by decide) _).mono ?_
  rintro e w2 ⟨b1, rfl, hI, hb2, hg1⟩
  have HU : Hid (Uno w.heap.size w w2 0 b1 []) := ⟨hb2, hg1, hI⟩
  clear hI hb2 hg1
  go_wp2_with fail
  refine (newK 1 (by decide) _).mono ?_
  rintro e w3 ⟨b2, rfl, hI, hb3, hg2⟩
  have HD := Lib.hid (HU.out.clone hb3 hg2 hI)
  clear hI hb3 hg2 HU
  go_wp2_with fail
  refine (fixedW _).mono ?_
  rintro e w4 ⟨rfl, hb4⟩
  have HD4 := Lib.hid (HD.out.below hb4)
  clear hb4 HD
  go_wp2_with fail
  have ht : Two ((w4.alloc (.cells #[] 5)).alloc (.cells #[] 5)) w4.heap.size (.slice (some ⟨w4.heap.size, 0, none⟩) 0 0) [] (.slice (some ⟨w4.heap.size + 1, 0, none⟩) 0 0) [] := by
    refine ⟨(Owns.lit w4 [] #[] (Nat.le_refl _) rfl (by decide)).alloc _, ?_, ?_, by simp; omega⟩
    · have := Owns.lit (e := 5) (base := w4.heap.size) (w4.alloc (.cells #[] 5)) [] #[] (by simp) rfl (by decide)
      simpa using this
    · intro g hg h; simp [Value.ownBlock] at hg h; omega
  have hd5 := (HD4.out.alloc (.cells #[] 5)).alloc (.cells #[] 5)
  obtain ⟨W5, hW5⟩ : ∃ v, v = (w4.alloc (.cells #[] 5)).alloc (.cells #[] 5) := ⟨_, rfl⟩
  rw [← hW5] at ht hd5 ⊢
  have hbl1 : b1 < w4.heap.size := HD4.out.i1.lt
  have hbl2 : b2 < w4.heap.size := HD4.out.i2.lt
  obtain ⟨base, hbase⟩ : ∃ b, b = w4.heap.size := ⟨_, rfl⟩
  rw [← hbase] at ht hbl1 hbl2 ⊢
  have HT := Lib.hid ht
  have HD5 := Lib.hid hd5
  have HBASE := Lib.hid (And.intro hbl1 (And.intro hbl2 HD5.out.n1))
  clear ht hd5 hbl1 hbl2 hbase hW5 HD4
  go_loopw [7, 8, 9] (fun v1 v2 vi wr => ∃ i : Nat, i ≤ ss.length ∧ vi = .int .i64 (i : Nat) ∧ Two wr base v1 (ev ss i) v2 (od ss i) ∧ Duo w.heap.size w wr 0 b1 (ev ss i) 1 b2 (od ss i)) (fun _ _ vi _ => (ss.length - intOf vi).toNat)
  case atStart => exact ⟨0, by omega, rfl, HT.out, HD5.out⟩
  case round =>
    obtain ⟨i, hi, rfl, ht, hd⟩ := hrel
    have HT := Lib.hid ht
    have HD := Lib.hid hd
    clear ht hd HD5
    by_cases hlt : i < ss.length
    · obtain ⟨pb, po, rfl, hcell⟩ := HCL.out i hlt
      have hsz := size_getD_le ss i hlt
      have hel := ev_od_len ss i (by omega)
      obtain ⟨s, hs⟩ : ∃ s, s = ss.getD i ByteArray.empty := ⟨_, rfl⟩
      rw [← hs] at hcell hsz
      have hpb := block_lt_of_cell hcell
      have HCX := Lib.hid hcell
      have HSN := Lib.hid hs
      have HSZ : Hid ((ev ss i).length + (od ss i).length + s.size ≤ 70368744177664) := by have := HSS.out; unfold Hid; omega
      have HPB := Lib.hid hpb
      clear hcell hs hsz hpb hel
      go_wp2_with fail
      refine (cloneK b1 _ _ HD.out.i1).mono ?_
      rintro e w6 ⟨rfl, hi6, hb6⟩
      have HD6 := Lib.hid (HD.out.below hb6)
      have HT6 := Lib.hid (HT.out.below hb6)
      obtain ⟨c1, hc1⟩ : ∃ b, b = wr.heap.size := ⟨_, rfl⟩
      rw [← hc1] at hi6 ⊢
      have HI6 := Lib.hid hi6
      have HC1 : Hid (base ≤ c1 ∧ b1 < c1 ∧ b2 < c1 ∧ u7.ownBlock ≠ some c1 ∧ u8.ownBlock ≠ some c1) := by
        rw [hc1]
        exact ⟨HT.out.bs, HD.out.i1.lt, HD.out.i2.lt, fun e => by have := (HT.out.o1.block e).2; omega, fun e => by have := (HT.out.o2.block e).2; omega⟩
      clear hi6 hb6 hc1 HD HT
      go_wp2_with fail
      refine (cloneK b2 _ _ HD6.out.i2).mono ?_
      rintro e w7 ⟨rfl, hi7, hb7⟩
      have HD7 := Lib.hid (HD6.out.below hb7)
      have HT7 := Lib.hid (HT6.out.below hb7)
      obtain ⟨c2, hc2⟩ : ∃ b, b = w6.heap.size := ⟨_, rfl⟩
      rw [← hc2] at hi7 ⊢
      have HC2 : Hid (base ≤ c2 ∧ b1 < c2 ∧ b2 < c2 ∧ u7.ownBlock ≠ some c2 ∧ u8.ownBlock ≠ some c2) := by
        rw [hc2]
        exact ⟨HT6.out.bs, HD6.out.i1.lt, HD6.out.i2.lt, fun e => by have := (HT6.out.o1.block e).2; omega, fun e => by have := (HT6.out.o2.block e).2; omega⟩
      have HE7 : Hid (Duo w.heap.size w w7 0 c1 (ev ss i) 1 c2 (od ss i)) := ⟨HD7.out.bel, by have := HC1.out.1; have := HBASE.out; omega, by have := HC2.out.1; have := HBASE.out; omega, by rw [hc2]; have := HI6.out.lt; omega, HI6.out.same (hb7.block c1 HI6.out.lt), hi7⟩
      clear hi7 hb7 hc2 HD6 HT6 HI6
      go_upto_if 50 with fail
      go_cut [7, 8] (fun v1 v2 wx => Two wx base v1 (ev ss (i + 1)) v2 (od ss (i + 1)) ∧ Duo w.heap.size w wx 0 b1 (ev ss (i + 1)) 1 b2 (od ss (i + 1)) ∧ Duo w.heap.size w wx 0 c1 (ev ss i) 1 c2 (od ss i) ∧ (v1.ownBlock ≠ some c1 ∧ v1.ownBlock ≠ some c2 ∧ v2.ownBlock ≠ some c1 ∧ v2.ownBlock ≠ some c2))
      case first =>
        have hcx := (HD7.out.bel.cell (p := ⟨pb, po + i, none⟩) HPB.out).trans HCX.out
        by_cases hp : i % 2 = 0
        · have HEV : Hid (ev ss (i + 1) = ev ss i ++ bs s) := by rw [ev_succ, if_pos hp, HSN.out]; exact rfl
          have HOD : Hid (od ss (i + 1) = od ss i) := by rw [od_succ, if_pos hp]; exact rfl
          have hpb : ((i : Int) % 2 == 0) = true := by rw [beq_iff_eq]; omega
          clear hp
          go_wp2_with fail
          refine (writeK b1 _ s _ HD7.out.i1 (by have := HSZ.out; omega)).mono ?_
          rintro e w8 ⟨rfl, hi8, hg8⟩
          have HD8 := Lib.hid (HD7.out.one hg8 hi8)
          have HE8 := Lib.hid (HE7.out.else_ hg8 (fun g hg => by injection hg with hg; have := HC1.out; have := HC2.out; have := HD7.out.n1; omega))
          have HT8 := Lib.hid (HT7.out.old hg8 HBASE.out.1)
          clear hi8 hg8 hcx HD7 HE7 HT7
          have hcx := (HD8.out.bel.cell (p := ⟨pb, po + i, none⟩) HPB.out).trans HCX.out
          go_wp2_with (at_builtin; refine wpList_append_str rfl _ _ 42 9 rfl Try.underlying42 Try.underlying9 info5 rfl HT8.out.o1 s rfl (by have := HSZ.out; omega) HT8.out.bs ?_)
          intro va w9 ho9 hg9 hva
          have HD9 := Lib.hid (HD8.out.else_ hg9 (fun g hg => by have := (HT8.out.o1.block hg).1; have := HBASE.out; omega))
          have HE9 := Lib.hid (HE8.out.else_ hg9 (fun g hg => by
            have h1 := (HT8.out.o1.block hg).1; have := HBASE.out; have h2 := HC1.out.2.2.2.1; have h3 := HC2.out.2.2.2.1
            exact ⟨by omega, fun e => h2 (e ▸ hg), fun e => h3 (e ▸ hg)⟩))
          have HT9 := Lib.hid (HT8.out.one hg9 ho9 hva)
          have HX : Hid (va.ownBlock ≠ some c1 ∧ va.ownBlock ≠ some c2 ∧ u8.ownBlock ≠ some c1 ∧ u8.ownBlock ≠ some c2) := by
            have h1 := HE8.out.i1.lt
            have h2 := HE8.out.i2.lt
            refine ⟨fun e => ?_, fun e => ?_, HC1.out.2.2.2.2, HC2.out.2.2.2.2⟩
            · rcases hva with e1 | e1
              · exact HC1.out.2.2.2.1 (e1 ▸ e)
              · rw [e1] at e; injection e with e; omega
            · rcases hva with e1 | e1
              · exact HC2.out.2.2.2.1 (e1 ▸ e)
              · rw [e1] at e; injection e with e; omega
          clear ho9 hg9 hva hcx HD8 HE8 HT8
          go_wp2_with fail
          go_meet
          rw [HEV.out, HOD.out]
          exact ⟨HT9.out, HD9.out, HE9.out, HX.out⟩
        · have HEV : Hid (ev ss (i + 1) = ev ss i) := by rw [ev_succ, if_neg hp]; exact rfl
          have HOD : Hid (od ss (i + 1) = od ss i ++ bs s) := by rw [od_succ, if_neg hp, HSN.out]; exact rfl
          have hpb : ((i : Int) % 2 == 0) = false := by rw [beq_eq_false_iff_ne]; omega
          clear hp
          go_wp2_with fail
          refine (writeK b2 _ s _ HD7.out.i2 (by have := HSZ.out; omega)).mono ?_
          rintro e w8 ⟨rfl, hi8, hg8⟩
          have HD8 := Lib.hid (HD7.out.two hg8 hi8)
          have HE8 := Lib.hid (HE7.out.else_ hg8 (fun g hg => by injection hg with hg; have := HC1.out; have := HC2.out; have := HD7.out.n2; omega))
          have HT8 := Lib.hid (HT7.out.old hg8 HBASE.out.2.1)
          clear hi8 hg8 hcx HD7 HE7 HT7
          have hcx := (HD8.out.bel.cell (p := ⟨pb, po + i, none⟩) HPB.out).trans HCX.out
          go_wp2_with (at_builtin; refine wpList_append_str rfl _ _ 42 9 rfl Try.underlying42 Try.underlying9 info5 rfl HT8.out.o2 s rfl (by have := HSZ.out; omega) HT8.out.bs ?_)
          intro va w9 ho9 hg9 hva
          have HD9 := Lib.hid (HD8.out.else_ hg9 (fun g hg => by have := (HT8.out.o2.block hg).1; have := HBASE.out; omega))
          have HE9 := Lib.hid (HE8.out.else_ hg9 (fun g hg => by
            have h1 := (HT8.out.o2.block hg).1; have := HBASE.out; have h2 := HC1.out.2.2.2.2; have h3 := HC2.out.2.2.2.2
            exact ⟨by omega, fun e => h2 (e ▸ hg), fun e => h3 (e ▸ hg)⟩))
          have HT9 := Lib.hid (HT8.out.two hg9 ho9 hva)
          have HX : Hid (u7.ownBlock ≠ some c1 ∧ u7.ownBlock ≠ some c2 ∧ va.ownBlock ≠ some c1 ∧ va.ownBlock ≠ some c2) := by
            have h1 := HE8.out.i1.lt
            have h2 := HE8.out.i2.lt
            refine ⟨HC1.out.2.2.2.1, HC2.out.2.2.2.1, fun e => ?_, fun e => ?_⟩
            · rcases hva with e1 | e1
              · exact HC1.out.2.2.2.2 (e1 ▸ e)
              · rw [e1] at e; injection e with e; omega
            · rcases hva with e1 | e1
              · exact HC2.out.2.2.2.2 (e1 ▸ e)
              · rw [e1] at e; injection e with e; omega
          clear ho9 hg9 hva hcx HD8 HE8 HT8
          go_wp2_with fail
          go_meet
          rw [HEV.out, HOD.out]
          exact ⟨HT9.out, HD9.out, HE9.out, HX.out⟩
      case rest =>
        obtain ⟨ht, hd, he, hx⟩ := hcut
        have hel := ev_od_len ss (i + 1) (by omega)
        have HLN : Hid ((ev ss (i + 1)).length + (od ss (i + 1)).length ≤ 70368744177664) := by have := length_cat_take ss (i + 1); have := HSS.out; unfold Hid; omega
        have HT := Lib.hid ht
        have HD := Lib.hid hd
        have HE := Lib.hid he
        have HX := Lib.hid hx
        clear ht hd he hx hel HT7 HD7 HE7 HSN
        obtain ⟨A, hA⟩ : ∃ A, A = ev ss (i + 1) := ⟨_, rfl⟩
        obtain ⟨B, hB⟩ : ∃ B, B = od ss (i + 1) := ⟨_, rfl⟩
        rw [← hA, ← hB] at HLN HT HD
        have HAA := Lib.hid hA
        have HBB := Lib.hid hB
        have HAL : Hid (∀ c ∈ A, c < 256) := by rw [hA]; exact ev_lt ss _
        have HBL : Hid (∀ c ∈ B, c < 256) := by rw [hB]; exact od_lt ss _
        clear hA hB
        go_wp2_with fail
        refine (writeK c1 _ _ _ HE.out.i1 (by rw [spoilt_size]; have := HSZ.out; omega)).mono ?_
        rintro e w10 ⟨rfl, hi10, hg10⟩
        have HE10 := Lib.hid (HE.out.one hg10 hi10)
        have HD10 := Lib.hid (HD.out.else_ hg10 (fun g hg => by injection hg with hg; have := HC1.out; have := HE.out.n1; omega))
        have HT10 := Lib.hid (HT.out.own hg10 HX.out.1 HX.out.2.2.1)
        clear hi10 hg10 HE HD HT
        go_wp2_with fail
        refine (writeK c2 _ _ _ HE10.out.i2 (by rw [spoilt_size]; have := HSZ.out; omega)).mono ?_
        rintro e w11 ⟨rfl, hi11, hg11⟩
        have HE11 := Lib.hid (HE10.out.two hg11 hi11)
        have HD11 := Lib.hid (HD10.out.else_ hg11 (fun g hg => by injection hg with hg; have := HC2.out; have := HE10.out.n2; omega))
        have HT11 := Lib.hid (HT10.out.own hg11 HX.out.2.1 HX.out.2.2.2)
        clear hi11 hg11 HE10 HD10 HT10
        obtain ⟨S, hS⟩ : ∃ S, S = strOf (Sha.sum Sha.k32 A) := ⟨_, rfl⟩
        obtain ⟨T, hT⟩ : ∃ S, S = strOf (Sha.sum Sha.k64 B) := ⟨_, rfl⟩
        have g1 : ∀ t : Grow w11, Calls Try.prog 18 #[.pointer (some ⟨b1, 0, none⟩)] t.val fun e w' => e = .returned (.string S) ∧ Below t.val.heap.size t.val w' := fun t => by
          rw [hS]; exact hsumK b1 _ _ (HD11.out.below t.below).i1 (by have := HLN.out; omega)
        have g2 : ∀ t : Grow w11, Calls Try.prog 18 #[.pointer (some ⟨b2, 0, none⟩)] t.val fun e w' => e = .returned (.string T) ∧ Below t.val.heap.size t.val w' := fun t => by
          rw [hT]; exact hsumK b2 _ _ (HD11.out.below t.below).i2 (by have := HLN.out; omega)
        have g3 : ∀ t : Grow w11, Calls Try.prog 20 #[.string (strOf A)] t.val fun e w' => e = .returned (.string S) ∧ Below t.val.heap.size t.val w' := fun t => by
          have := sum256W (strOf A) t.val (by rw [size_strOf]; have := HLN.out; omega)
          rw [bs_strOf _ HAL.out, ← hS] at this; exact this
        have g4 : ∀ t : Grow w11, Calls Try.prog 22 #[.string (strOf B)] t.val fun e w' => e = .returned (.string T) ∧ Below t.val.heap.size t.val w' := fun t => by
          have := sum384W (strOf B) t.val (by rw [size_strOf]; have := HLN.out; omega)
          rw [bs_strOf _ HBL.out, ← hT] at this; exact this
        obtain ⟨C, hC, hCn⟩ : ∃ S, S = strOf (Sha.sum Sha.k32 (ev ss i ++ bs ⟨#[115, 112, 111, 105, 108, 116]⟩)) ∧ S.size = 32 := ⟨_, rfl, by rw [size_strOf, Sha.length_sum32]⟩
        obtain ⟨D, hDD, hDn⟩ : ∃ S, S = strOf (Sha.sum Sha.k64 (od ss i ++ bs ⟨#[115, 112, 111, 105, 108, 116]⟩)) ∧ S.size = 48 := ⟨_, rfl, by rw [size_strOf, Sha.length_sum64]⟩
        have g5 : ∀ t : Grow w11, Calls Try.prog 18 #[.pointer (some ⟨c1, 0, none⟩)] t.val fun e w' => e = .returned (.string C) ∧ Below t.val.heap.size t.val w' := fun t => by
          rw [hC]; exact hsumK c1 _ _ (HE11.out.below t.below).i1 (by rw [List.length_append, length_bs, spoilt_size]; have := HSZ.out; omega)
        have g6 : ∀ t : Grow w11, Calls Try.prog 18 #[.pointer (some ⟨c2, 0, none⟩)] t.val fun e w' => e = .returned (.string D) ∧ Below t.val.heap.size t.val w' := fun t => by
          rw [hDD]; exact hsumK c2 _ _ (HE11.out.below t.below).i2 (by rw [List.length_append, length_bs, spoilt_size]; have := HSZ.out; omega)
        have G1 := Lib.hid g1
        have G2 := Lib.hid g2
        have G3 := Lib.hid g3
        have G4 := Lib.hid g4
        have G5 := Lib.hid g5
        have G6 := Lib.hid g6
        have hCe : C.toList.isEmpty = false := not_empty C (by omega)
        have hDe : D.toList.isEmpty = false := not_empty D (by omega)
        have q1 : ∀ t : Grow w11, (convert 42 9 u7).run Try.prog t.val = .ok (.string (strOf A)) t.val := fun t => run_owned_string _ 42 9 Try.underlying42 Try.underlying5 Try.underlying9 (HT11.out.o1.grow t)
        have q2 : ∀ t : Grow w11, (convert 42 9 u8).run Try.prog t.val = .ok (.string (strOf B)) t.val := fun t => run_owned_string _ 42 9 Try.underlying42 Try.underlying5 Try.underlying9 (HT11.out.o2.grow t)
        clear g1 g2 g3 g4 g5 g6 hS hT hC hDD hCn hDn
        go_wp2_with fail
        refine wp_region_fam (by kernel_rfl) (by kernel_rfl) Grow.val (Grow.start w11) ?_
        repeat go_big_quiet_step ((first | (with_reducible refine Calls.fam_of (G1.out _) (Grow.more _)) | (with_reducible refine Calls.fam_of (G2.out _) (Grow.more _)) | (with_reducible refine Calls.fam_of (G3.out _) (Grow.more _)) | (with_reducible refine Calls.fam_of (G4.out _) (Grow.more _)) | (with_reducible refine Calls.fam_of (G5.out _) (Grow.more _)) | (with_reducible refine Calls.fam_of (G6.out _) (Grow.more _))))
        refine wpQuiet_nil ?_
        intro tt
        have HT12 := Lib.hid (HT11.out.below tt.below)
        have HD12 := Lib.hid (HD11.out.below tt.below)
        clear G1 G2 G3 G4 G5 G6 q1 q2
        go_wp2_with fail
        rw [HAA.out, HBB.out] at HT12 HD12
        exact ⟨⟨i + 1, by omega, rfl, HT12.out, HD12.out⟩, by simp [intOf]; omega⟩
    · have hie : i = ss.length := by omega
      have hel := ev_od_len ss i (by omega)
      have HLN : Hid ((ev ss i).length + (od ss i).length ≤ 70368744177664) := by have := length_cat_take ss i; have := HSS.out; unfold Hid; omega
      clear hel hie
      obtain ⟨A, hA⟩ : ∃ A, A = ev ss i := ⟨_, rfl⟩
      obtain ⟨B, hB⟩ : ∃ B, B = od ss i := ⟨_, rfl⟩
      rw [← hA, ← hB] at HLN HT HD
      clear hA hB
      obtain ⟨p1, k1, rfl⟩ := HT.out.o1.shape
      obtain ⟨p2, k2, rfl⟩ := HT.out.o2.shape
      have hl1 : A.length ≤ 70368744177664 := by have := HLN.out; omega
      have hl2 : B.length ≤ 70368744177664 := by have := HLN.out; omega
      go_wp2_with fail
      refine (sizeK b1 _ _ HD.out.i1).mono ?_
      rintro e w6 ⟨rfl, rfl⟩
      go_wp2_with fail
      refine (sizeK b2 _ _ HD.out.i2).mono ?_
      rintro e w6 ⟨rfl, rfl⟩
      go_wp2_with fail
      go_ret
      exact ⟨by simp, HD.out.bel⟩
end Go.Proofs.Ytjlhckgokdjajaa
