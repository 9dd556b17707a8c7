/- The law TextCursors, walked. -/
import Derived.Test.YthdoeaiehajofaaDoorTArms
namespace Go.Proofs.YthdoeaiehajofaaDoor
set_option linter.unusedVariables false
set_option maxRecDepth 1000000
open Go.RowKit
set_option maxHeartbeats 16000000 in
theorem cursorsLaw (s : ByteArray) (vo : Value) (os : List Opc) (w : World) (hgl : Glob w) (hs : s.size ≤ 4194304) (ho : Ops w vo os) (hol : os.length ≤ 1048576) (hok : ∀ i, (os.getD i Opc.zero).ok) :
    Calls Tryd.prog 9 #[.string s, vo] w fun e w' => e = .returned (.bool true) ∧ Below w.heap.size w w' := by
  have HG := Lib.hid hgl
  have HLT := Lib.hid hgl.lt
  obtain ⟨N, hN⟩ : ∃ N, N = os.length := ⟨_, rfl⟩
  obtain ⟨po, co, rfl, hco⟩ := ho
  rw [← hN] at hol hco ⊢
  have HCO : Hid (∀ i, i < N → ∃ bo off, po = some ⟨bo, off, none⟩ ∧ bo < w.heap.size ∧ OpAt w bo (off + i * 3) (os.getD i Opc.zero)) := fun i hi => by
    obtain ⟨bo, off, h1, h2⟩ := hco i hi
    exact ⟨bo, off, h1, block_lt_of_cell h2.1, h2⟩
  have HOK := Lib.hid hok
  have HS0 := Lib.hid (Both.start w s (by omega))
  clear hgl hN hco hok
  go_enter Tryd.func9, Tryd.ntmps9
  go_wp2_with fail
  refine (openW s w).mono ?_
  rintro e w1 ⟨rfl, rfl⟩
  go_wp2_with fail
  refine (fixedW _ (HG.out.below HS0.out.bel HLT.out)).mono ?_
  rintro e w5 ⟨rfl, hb⟩
  have HS5 := Lib.hid (HS0.out.below hb)
  clear hb HS0
  go_wp2_with fail
  go_loopw [5, 6, 7] (fun v5 v6 v7 wr => ∃ (i : Nat) (cs : CS) (X Y : List Nat), v7 = .int .i64 (i : Nat) ∧ i ≤ N ∧ 1 ≤ cs.length ∧ cs.length ≤ i + 1 ∧ Both w wr w.heap.size v5 v6 cs X Y) (fun _ _ v7 _ => (N - intOf v7).toNat)
  case atStart => exact ⟨0, _, _, _, rfl, by omega, by simp, by simp, HS5.out⟩
  case round =>
    obtain ⟨i, cs, X, Y, rfl, hi, hn1, hn2, hb⟩ := hrel
    obtain ⟨px, cx, rfl⟩ := hb.x.shape
    obtain ⟨py, cy, rfl⟩ := hb.y.shape
    obtain ⟨n, hn⟩ : ∃ n, n = cs.length := ⟨_, rfl⟩
    rw [← hn] at hb hn1 hn2 ⊢
    have HB := Lib.hid hb
    have HN := Lib.hid hn
    clear hb hn
    have hn3 : n ≤ 1048577 := by omega
    by_cases hlt : i < N
    · obtain ⟨bo, off, hpo, hbo, hop⟩ := HCO.out i hlt
      subst hpo
      have hoo := HOK.out i
      obtain ⟨⟨on, kd, nn⟩, hoq⟩ : ∃ o, os.getD i Opc.zero = o := ⟨_, rfl⟩
      rw [hoq] at hop hoo
      obtain ⟨⟨r1, r2⟩, ⟨r3, r4⟩, ⟨r5, r6⟩⟩ := hoo
      dsimp only at r1 r2 r3 r4 r5 r6
      have hcl := fun (a : Addr) (v : Value) (ha : a.block < w.heap.size) (hc : w.cell? a = some v) => (HB.out.bel.cell ha).trans hc
      have k0 : wr.cell? ⟨bo, off + i * 3, none⟩ = some (.int .i64 on) := hcl _ _ hbo hop.1
      have k1 : wr.cell? ⟨bo, off + i * 3 + 1, none⟩ = some (.int .i64 kd) := hcl _ _ hbo hop.2.1
      have k2 : wr.cell? ⟨bo, off + i * 3 + 2, none⟩ = some (.int .i64 nn) := hcl _ _ hbo hop.2.2
      obtain ⟨k, hk, hkk⟩ := mod_eq on n (by omega)
      have HKK := Lib.hid hkk
      have hnn0 : ((n : Int) == 0) = false := by rw [beq_eq_false_iff_ne]; omega
      have hnn1 : (n : Int) ≠ 0 := by omega
      clear hop hoq hcl hkk
      obtain ⟨r, hr⟩ : ∃ r, on.tmod (n : Int) = r := ⟨_, rfl⟩
      go_upto_if 54 with fail
      go_cut [9] (fun v9 wx => v9 = .int .i64 (k : Int) ∧ wx = wr.alloc (.cells #[.int .i64 on, .int .i64 kd, .int .i64 nn] 53))
      case first =>
        rcases HKK.out with ⟨h1, h2⟩ | ⟨h1, h2⟩
        · rw [hr] at h1 h2
          subst h2
          go_wp2_with fail
          go_meet
          exact ⟨rfl, rfl⟩
        · rw [hr] at h1 h2
          go_wp2_with fail
          go_meet
          exact ⟨rfl, rfl⟩
      case rest =>
        obtain ⟨rfl, rfl⟩ := hcut
        clear k0 k1 k2 hr hnn0 hnn1
        obtain ⟨wo, hwo⟩ : ∃ wo, wo = wr.alloc (.cells #[.int .i64 on, .int .i64 kd, .int .i64 nn] 53) := ⟨_, rfl⟩
        obtain ⟨ob, hob⟩ : ∃ ob, ob = wr.heap.size := ⟨_, rfl⟩
        have HBO : Hid (Both w wo w.heap.size (.slice px n cx) (.slice py n cy) cs X Y) := by unfold Hid; rw [hwo]; exact HB.out.below ((Below.refl _ _).alloc (Nat.le_refl _) _)
        have HOB : Hid (wo.heap[ob]? = some (.cells #[.int .i64 on, .int .i64 kd, .int .i64 nn] 53 (0, 0))) := by unfold Hid; rw [hwo, hob]; exact heap_alloc_new _ _
        rw [← hwo, ← hob]
        clear hwo hob HB
        have kd1 : wo.cell? ⟨ob, 1, none⟩ = some (.int .i64 kd) := by rw [cell_of_row wo ob 1 _ _ (0, 0) HOB.out]; rfl
        go_upto_block 2 with fail
        go_cut [5, 6, 10, 11, 12, 13] (fun v5 v6 v10 v11 v12 v13 wx => ArmRel w n v5 v6 v10 v11 v12 v13 wx)
        case first =>
          refine armAll kd HBO.out HOB.out HN.out hk hn1 hn3 r5 r6 (fun _ _ _ _ _ h => h) ?_
          intro u5 u6 u10 u11 u12 u13 u14 u15 u16 u17 u18 u19 u20 u21 u61 u62 u63 u64 u65 u66 u67 u68 u69 u70 u71 u72 u73 u74 u75 u76 u77 u78 u79 u80 u81 u82 u83 u84 u85 u86 u87 u88 u89 u90 u91 u92 u93 u94 u95 u96 u97 u98 u99 u100 u101 u102 u103 u104 u105 u106 u107 u108 u109 u110 u111 u112 u113 u114 u115 u116 u117 u118 u119 u120 u121 u122 u123 u124 u125 u126 u127 u128 u129 u130 u131 u132 u133 u134 u135 u136 u137 u138 u139 u140 u141 u142 u143 u144 u145 u146 u147 u148 u149 u150 u151 u152 u153 u154 u155 u156 u157 u158 u159 u160 u161 u162 u163 u164 u165 u166 u167 u168 u169 u170 u171 u172 u173 u174 u175 u176 u177 u178 u179 u180 u181 u182 u183 u184 u185 u186 u187 u188 u189 u190 u191 u192 u193 u194 u195 wx h
          go_wp2_with fail
          go_meet
          exact h
        case rest =>
          obtain ⟨cs2, X2, Y2, t, e, rfl, rfl, rfl, rfl, hl1, hl2, hbb⟩ := hcut
          clear kd1
          obtain ⟨px2, cx2, hvx⟩ := hbb.x.shape
          subst hvx
          obtain ⟨py2, cy2, hvy⟩ := hbb.y.shape
          subst hvy
          obtain ⟨n2, hn2'⟩ : ∃ n, n = cs2.length := ⟨_, rfl⟩
          rw [← hn2'] at hbb hl1 hl2 ⊢
          have HBB := Lib.hid hbb
          have HN2 := Lib.hid hn2'
          have hn4 : n2 ≤ 1048578 := by omega
          clear hbb hn2'
          go_wp2_with fail
          go_loopw [22] (fun v22 wr => ∃ j : Nat, j ≤ n2 ∧ v22 = .int .i64 (j : Nat) ∧ Both w wr w.heap.size (.slice px2 n2 cx2) (.slice py2 n2 cy2) cs2 X2 Y2) (fun v22 _ => (n2 - intOf v22).toNat)
          case atStart => exact ⟨0, by omega, rfl, HBB.out⟩
          case round =>
            obtain ⟨j, hj, rfl, hbj⟩ := hrel
            have HBJ := Lib.hid hbj
            clear hbj
            by_cases hj2 : j < n2
            · obtain ⟨gx2, capx2, hvx, hcx⟩ := HBJ.out.x.pos (j := j) (by rw [← HN2.out]; exact hj2)
              have e1 := (Value.slice.inj hvx).1
              clear hvx
              subst e1
              obtain ⟨gy2, capy2, hvy, hcy⟩ := HBJ.out.y.pos (j := j) (by rw [← HN2.out]; exact hj2)
              have e2 := (Value.slice.inj hvy).1
              clear hvy
              subst e2
              obtain ⟨bx2, hbx⟩ : ∃ b, b = X2.getD j 0 := ⟨_, rfl⟩
              obtain ⟨by2, hby⟩ : ∃ b, b = Y2.getD j 0 := ⟨_, rfl⟩
              rw [← hbx] at hcx
              rw [← hby] at hcy
              obtain ⟨⟨sj, kj⟩, hsj⟩ : ∃ p, cs2.getD j cz = p := ⟨_, rfl⟩
              have hix := HBJ.out.x.cur j (by rw [← HN2.out]; exact hj2)
              have hiy := HBJ.out.y.cur j (by rw [← HN2.out]; exact hj2)
              rw [← hbx, hsj] at hix
              rw [← hby, hsj] at hiy
              have HIXJ : Hid (IsC wr bx2 70 sj kj) := hix
              have HIYJ : Hid (IsC wr by2 50 sj kj) := hiy
              have HSS : Hid (wr.drew.cell? ⟨gx2, j, none⟩ = some (ptr bx2) ∧ wr.drew.cell? ⟨gy2, j, none⟩ = some (ptr by2) ∧ wr.drew.cell? ⟨by2, 0, none⟩ = some (.string sj) ∧ wr.drew.cell? ⟨by2, 1, none⟩ = some (.int .i64 (kj : Int))) := ⟨hcx, hcy, hiy.c0, hiy.c1⟩
              obtain ⟨L2, hL2⟩ : ∃ L : Int, (sj.size : Int) - (kj : Int) = L := ⟨_, rfl⟩
              have hw1 : IntKind.i64.wrap L2 = L2 := IntWalk.i64_in _ (by have h1 := HIYJ.out.le; have h2 := HIYJ.out.small; omega)
              have hjj : (j : Int) < (n2 : Int) := by omega
              have HL2 := Lib.hid hL2
              clear hcx hcy hbx hby hsj hix hiy
              go_wp2_with fail
              refine wp_region_U 36 (fun u => u.cell? ⟨gx2, j, none⟩ = some (ptr bx2) ∧ u.cell? ⟨gy2, j, none⟩ = some (ptr by2) ∧ u.cell? ⟨by2, 0, none⟩ = some (.string sj) ∧ u.cell? ⟨by2, 1, none⟩ = some (.int .i64 (kj : Int))) (by kernel_rfl) ?_
              change wpAnyU _ _ _ _ _ _ 37 (Array.replicate 37 false) _ _
              refine takeU 0 (v := ?_) rfl (by kernel_rfl) (by kernel_rfl) (fun _ _ _ h => h) rfl (fun u hu => ?_) HSS.out ?_
              rotate_left
              · skip; go_simp <;> with_reducible rfl
              simp only [Act.put, List.setIfInBounds_toArray, List.set_cons_zero, List.set_cons_succ]
              refine takeU 1 (v := ?_) rfl (by kernel_rfl) (by kernel_rfl) (fun _ _ _ h => h) rfl (fun u hu => ?_) HSS.out ?_
              rotate_left
              · skip; go_simp <;> with_reducible rfl
              simp only [Act.put, List.setIfInBounds_toArray, List.set_cons_zero, List.set_cons_succ]
              refine takeU 2 (v := ?_) rfl (by kernel_rfl) (by kernel_rfl) (fun _ _ _ h => h) rfl (fun u hu => ?_) HSS.out ?_
              rotate_left
              · skip; go_simp <;> with_reducible rfl
              simp only [Act.put, List.setIfInBounds_toArray, List.set_cons_zero, List.set_cons_succ]
              refine takeU 3 (v := ?_) rfl (by kernel_rfl) (by kernel_rfl) (fun _ _ _ h => h) rfl (fun u hu => ?_) HSS.out ?_
              rotate_left
              · have q0 := hu.1; have q1 := hu.2.1; have q2 := hu.2.2.1; have q3 := hu.2.2.2; go_simp <;> with_reducible rfl
              simp only [Act.put, List.setIfInBounds_toArray, List.set_cons_zero, List.set_cons_succ]
              refine takeU 5 (v := ?_) rfl (by kernel_rfl) (by kernel_rfl) (fun _ _ _ h => h) rfl (fun u hu => ?_) HSS.out ?_
              rotate_left
              · skip; go_simp <;> with_reducible rfl
              simp only [Act.put, List.setIfInBounds_toArray, List.set_cons_zero, List.set_cons_succ]
              refine takeU 6 (v := ?_) rfl (by kernel_rfl) (by kernel_rfl) (fun _ _ _ h => h) rfl (fun u hu => ?_) HSS.out ?_
              rotate_left
              · skip; go_simp <;> with_reducible rfl
              simp only [Act.put, List.setIfInBounds_toArray, List.set_cons_zero, List.set_cons_succ]
              refine takeU 7 (v := ?_) rfl (by kernel_rfl) (by kernel_rfl) (fun _ _ _ h => h) rfl (fun u hu => ?_) HSS.out ?_
              rotate_left
              · skip; go_simp <;> with_reducible rfl
              simp only [Act.put, List.setIfInBounds_toArray, List.set_cons_zero, List.set_cons_succ]
              refine takeU 8 (v := ?_) rfl (by kernel_rfl) (by kernel_rfl) (fun _ _ _ h => h) rfl (fun u hu => ?_) HSS.out ?_
              rotate_left
              · have q0 := hu.1; have q1 := hu.2.1; have q2 := hu.2.2.1; have q3 := hu.2.2.2; go_simp <;> with_reducible rfl
              simp only [Act.put, List.setIfInBounds_toArray, List.set_cons_zero, List.set_cons_succ]
              refine takeU 9 (v := ?_) rfl (by kernel_rfl) (by kernel_rfl) (fun _ _ _ h => h) rfl (fun u hu => ?_) HSS.out ?_
              rotate_left
              · skip; go_simp <;> with_reducible rfl
              simp only [Act.put, List.setIfInBounds_toArray, List.set_cons_zero, List.set_cons_succ]
              refine takeU 10 (v := ?_) rfl (by kernel_rfl) (by kernel_rfl) (fun _ _ _ h => h) rfl (fun u hu => ?_) HSS.out ?_
              rotate_left
              · skip; go_simp <;> with_reducible rfl
              simp only [Act.put, List.setIfInBounds_toArray, List.set_cons_zero, List.set_cons_succ]
              refine takeU 11 (v := ?_) rfl (by kernel_rfl) (by kernel_rfl) (fun _ _ _ h => h) rfl (fun u hu => ?_) HSS.out ?_
              rotate_left
              · have q0 := hu.1; have q1 := hu.2.1; have q2 := hu.2.2.1; have q3 := hu.2.2.2; go_simp <;> with_reducible rfl
              simp only [Act.put, List.setIfInBounds_toArray, List.set_cons_zero, List.set_cons_succ]
              refine oneU 4 (by kernel_rfl) ?_
              refine callU 4 rfl (by kernel_rfl) rfl 24 _ _ rfl #[ptr bx2] (by simp [Act.eval]) (enters_of Tryd.func24 (by kernel_rfl) rfl) (fun v u => v = .int .i64 (kj : Int) ∧ u = wr.drew) ((atCV wr.drew (kj : Int) HIXJ.out.drew rfl).mono (fun e u h => ⟨_, h.1, rfl, h.2⟩)) ?_
              rintro v u ⟨rfl, rfl⟩
              refine ⟨HSS.out, ?_⟩
              simp only [Act.put, List.setIfInBounds_toArray, List.set_cons_zero, List.set_cons_succ]
              refine takeU 12 (v := ?_) rfl (by kernel_rfl) (by kernel_rfl) (fun _ _ _ h => h) rfl (fun u hu => ?_) HSS.out ?_
              rotate_left
              · skip; go_simp <;> with_reducible rfl
              simp only [Act.put, List.setIfInBounds_toArray, List.set_cons_zero, List.set_cons_succ]
              refine takeU 13 (v := ?_) rfl (by kernel_rfl) (by kernel_rfl) (fun _ _ _ h => h) rfl (fun u hu => ?_) HSS.out ?_
              rotate_left
              · skip; go_simp <;> with_reducible rfl
              simp only [Act.put, List.setIfInBounds_toArray, List.set_cons_zero, List.set_cons_succ]
              refine takeU 14 (v := ?_) rfl (by kernel_rfl) (by kernel_rfl) (fun _ _ _ h => h) rfl (fun u hu => ?_) HSS.out ?_
              rotate_left
              · skip; go_simp <;> with_reducible rfl
              simp only [Act.put, List.setIfInBounds_toArray, List.set_cons_zero, List.set_cons_succ]
              refine takeU 15 (v := ?_) rfl (by kernel_rfl) (by kernel_rfl) (fun _ _ _ h => h) rfl (fun u hu => ?_) HSS.out ?_
              rotate_left
              · skip; go_simp <;> with_reducible rfl
              simp only [Act.put, List.setIfInBounds_toArray, List.set_cons_zero, List.set_cons_succ]
              refine takeU 16 (v := ?_) rfl (by kernel_rfl) (by kernel_rfl) (fun _ _ _ h => h) rfl (fun u hu => ?_) HSS.out ?_
              rotate_left
              · skip; go_simp <;> with_reducible rfl
              simp only [Act.put, List.setIfInBounds_toArray, List.set_cons_zero, List.set_cons_succ]
              refine takeU 17 (v := ?_) rfl (by kernel_rfl) (by kernel_rfl) (fun _ _ _ h => h) rfl (fun u hu => ?_) HSS.out ?_
              rotate_left
              · have q0 := hu.1; have q1 := hu.2.1; have q2 := hu.2.2.1; have q3 := hu.2.2.2; go_simp <;> with_reducible rfl
              simp only [Act.put, List.setIfInBounds_toArray, List.set_cons_zero, List.set_cons_succ]
              refine takeU 19 (v := ?_) rfl (by kernel_rfl) (by kernel_rfl) (fun _ _ _ h => h) rfl (fun u hu => ?_) HSS.out ?_
              rotate_left
              · skip; go_simp <;> with_reducible rfl
              simp only [Act.put, List.setIfInBounds_toArray, List.set_cons_zero, List.set_cons_succ]
              refine takeU 20 (v := ?_) rfl (by kernel_rfl) (by kernel_rfl) (fun _ _ _ h => h) rfl (fun u hu => ?_) HSS.out ?_
              rotate_left
              · skip; go_simp <;> with_reducible rfl
              simp only [Act.put, List.setIfInBounds_toArray, List.set_cons_zero, List.set_cons_succ]
              refine takeU 21 (v := ?_) rfl (by kernel_rfl) (by kernel_rfl) (fun _ _ _ h => h) rfl (fun u hu => ?_) HSS.out ?_
              rotate_left
              · skip; go_simp <;> with_reducible rfl
              simp only [Act.put, List.setIfInBounds_toArray, List.set_cons_zero, List.set_cons_succ]
              refine takeU 22 (v := ?_) rfl (by kernel_rfl) (by kernel_rfl) (fun _ _ _ h => h) rfl (fun u hu => ?_) HSS.out ?_
              rotate_left
              · have q0 := hu.1; have q1 := hu.2.1; have q2 := hu.2.2.1; have q3 := hu.2.2.2; go_simp <;> with_reducible rfl
              simp only [Act.put, List.setIfInBounds_toArray, List.set_cons_zero, List.set_cons_succ]
              refine takeU 23 (v := ?_) rfl (by kernel_rfl) (by kernel_rfl) (fun _ _ _ h => h) rfl (fun u hu => ?_) HSS.out ?_
              rotate_left
              · skip; go_simp <;> with_reducible rfl
              simp only [Act.put, List.setIfInBounds_toArray, List.set_cons_zero, List.set_cons_succ]
              refine takeU 24 (v := ?_) rfl (by kernel_rfl) (by kernel_rfl) (fun _ _ _ h => h) rfl (fun u hu => ?_) HSS.out ?_
              rotate_left
              · skip; go_simp <;> with_reducible rfl
              simp only [Act.put, List.setIfInBounds_toArray, List.set_cons_zero, List.set_cons_succ]
              refine takeU 25 (v := ?_) rfl (by kernel_rfl) (by kernel_rfl) (fun _ _ _ h => h) rfl (fun u hu => ?_) HSS.out ?_
              rotate_left
              · have q0 := hu.1; have q1 := hu.2.1; have q2 := hu.2.2.1; have q3 := hu.2.2.2; go_simp <;> with_reducible rfl
              simp only [Act.put, List.setIfInBounds_toArray, List.set_cons_zero, List.set_cons_succ]
              refine takeU 26 (v := ?_) rfl (by kernel_rfl) (by kernel_rfl) (fun _ _ _ h => h) rfl (fun u hu => ?_) HSS.out ?_
              rotate_left
              · skip; go_simp <;> with_reducible rfl
              simp only [Act.put, List.setIfInBounds_toArray, List.set_cons_zero, List.set_cons_succ]
              refine takeU 27 (v := ?_) rfl (by kernel_rfl) (by kernel_rfl) (fun _ _ _ h => h) rfl (fun u hu => ?_) HSS.out ?_
              rotate_left
              · skip; go_simp <;> with_reducible rfl
              simp only [Act.put, List.setIfInBounds_toArray, List.set_cons_zero, List.set_cons_succ]
              refine takeU 28 (v := ?_) rfl (by kernel_rfl) (by kernel_rfl) (fun _ _ _ h => h) rfl (fun u hu => ?_) HSS.out ?_
              rotate_left
              · skip; go_simp <;> with_reducible rfl
              simp only [Act.put, List.setIfInBounds_toArray, List.set_cons_zero, List.set_cons_succ]
              refine takeU 29 (v := ?_) rfl (by kernel_rfl) (by kernel_rfl) (fun _ _ _ h => h) rfl (fun u hu => ?_) HSS.out ?_
              rotate_left
              · skip; go_simp <;> with_reducible rfl
              simp only [Act.put, List.setIfInBounds_toArray, List.set_cons_zero, List.set_cons_succ]
              refine takeU 30 (v := ?_) rfl (by kernel_rfl) (by kernel_rfl) (fun _ _ _ h => h) rfl (fun u hu => ?_) HSS.out ?_
              rotate_left
              · have q0 := hu.1; have q1 := hu.2.1; have q2 := hu.2.2.1; have q3 := hu.2.2.2; go_simp <;> with_reducible rfl
              simp only [Act.put, List.setIfInBounds_toArray, List.set_cons_zero, List.set_cons_succ]
              refine takeU 31 (v := ?_) rfl (by kernel_rfl) (by kernel_rfl) (fun _ _ _ h => h) rfl (fun u hu => ?_) HSS.out ?_
              rotate_left
              · skip; go_simp <;> with_reducible rfl
              simp only [Act.put, List.setIfInBounds_toArray, List.set_cons_zero, List.set_cons_succ]
              refine takeU 32 (v := ?_) rfl (by kernel_rfl) (by kernel_rfl) (fun _ _ _ h => h) rfl (fun u hu => ?_) HSS.out ?_
              rotate_left
              · skip; go_simp <;> with_reducible rfl
              simp only [Act.put, List.setIfInBounds_toArray, List.set_cons_zero, List.set_cons_succ]
              refine takeU 33 (v := ?_) rfl (by kernel_rfl) (by kernel_rfl) (fun _ _ _ h => h) rfl (fun u hu => ?_) HSS.out ?_
              rotate_left
              · have q0 := hu.1; have q1 := hu.2.1; have q2 := hu.2.2.1; have q3 := hu.2.2.2; go_simp <;> with_reducible rfl
              simp only [Act.put, List.setIfInBounds_toArray, List.set_cons_zero, List.set_cons_succ]
              refine takeU 34 (v := ?_) rfl (by kernel_rfl) (by kernel_rfl) (fun _ _ _ h => h) rfl (fun u hu => ?_) HSS.out ?_
              rotate_left
              · skip; go_simp <;> with_reducible rfl
              simp only [Act.put, List.setIfInBounds_toArray, List.set_cons_zero, List.set_cons_succ]
              refine oneU 18 (by kernel_rfl) ?_
              refine callU 18 rfl (by kernel_rfl) rfl 21 _ _ rfl #[ptr bx2] (by simp [Act.eval]) (enters_of Tryd.func21 (by kernel_rfl) rfl) (fun v u => v = .int .i64 L2 ∧ u = wr.drew.drew) ((leftCV wr.drew L2 HIXJ.out.drew HL2.out).mono (fun e u h => ⟨_, h.1, rfl, h.2⟩)) ?_
              rintro v u ⟨rfl, rfl⟩
              refine ⟨HSS.out, ?_⟩
              simp only [Act.put, List.setIfInBounds_toArray, List.set_cons_zero, List.set_cons_succ]
              refine takeU 35 (v := ?_) rfl (by kernel_rfl) (by kernel_rfl) (fun _ _ _ h => h) rfl (fun u hu => ?_) HSS.out ?_
              rotate_left
              · skip; go_simp <;> with_reducible rfl
              simp only [Act.put, List.setIfInBounds_toArray, List.set_cons_zero, List.set_cons_succ]
              refine oneU 36 (by kernel_rfl) ?_
              refine endU (v := ?_) 36 rfl (by kernel_rfl) (by kernel_rfl) rfl ?_ ?_
              rotate_left
              · go_simp <;> with_reducible rfl
              simp only [Act.put, List.setIfInBounds_toArray, List.set_cons_zero, List.set_cons_succ]
              go_wp2_with fail
              exact ⟨⟨j + 1, by omega, rfl, HBJ.out.drew.drew⟩, by simp [intOf]; omega⟩
            · have hjj : ¬ (j : Int) < (n2 : Int) := by omega
              have HJE := Lib.hid (show j = n2 by omega)
              go_wp2_with fail
              exact ⟨⟨i + 1, cs2, X2, Y2, rfl, by omega, by rw [← HN2.out]; exact hl1, by rw [← HN2.out]; omega, HBJ.out⟩, by simp [intOf]; omega⟩
    · have hii : ¬ (i : Int) < (N : Int) := by omega
      go_wp2_with fail
      go_ret
      exact ⟨rfl, HB.out.bel⟩
end Go.Proofs.YthdoeaiehajofaaDoor
