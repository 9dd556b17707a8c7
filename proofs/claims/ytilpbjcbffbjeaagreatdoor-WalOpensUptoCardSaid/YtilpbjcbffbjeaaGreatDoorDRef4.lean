/- The document's whole: a file as it is read. -/
import Derived.Test.YtilpbjcbffbjeaaGreatDoorDRef3
import Derived.Test.YtilpbjcbffbjeaaGreatDoorPkA
namespace Go.Proofs.YtilpbjcbffbjeaaGreatDoor
set_option linter.unusedVariables false
set_option maxRecDepth 100000
open Go.RowKit
theorem strs_at' {w : World} {p : Option Addr} {n c : Nat} {ss : List ByteArray} (h : Strs w (.slice p n c) ss) (i : Nat) (hi : i < ss.length) : ∃ b off, p = some ⟨b, off, none⟩ ∧ w.cell? ⟨b, off + i, none⟩ = some (.string (ss.getD i ⟨#[]⟩)) := by
  obtain ⟨q, d, e, hc⟩ := h.form
  injection e with e1 e2 e3
  subst e1
  exact hc i hi
theorem infoByte : (Tryz.prog.info? 5).map (fun i => (i.zero, i.size, i.bytes)) = some (some (.int .u8 0), 1, 1) := by kernel_rfl
set_option maxRecDepth 100000 in
set_option maxHeartbeats 800000 in
theorem rwholeW (f : Fl) (v : Value) (w : World) (h : WS w v f.ws) (hl : (rd f).size ≤ 1048576) (hn : f.ws.length ≤ 140737488355328) :
    Calls Tryz.prog 80 #[.agg #[.string f.safe, v]] w fun e w' => e = .returned (.string (rd f)) ∧ Below w.heap.size w w' := by
  have hsz := size_rd f
  obtain ⟨W, hW⟩ : ∃ W, W = w.alloc (.cells #[.string f.safe, v] 129) := ⟨_, rfl⟩
  have hb0 : Below w.heap.size w W := by rw [hW]; exact (Below.refl _ _).alloc (Nat.le_refl _) _
  have c0 : W.cell? ⟨w.heap.size, 0, none⟩ = some (.string f.safe) := by rw [hW]; simp
  have c1 : W.cell? ⟨w.heap.size, 1, none⟩ = some v := by rw [hW]; simp
  obtain ⟨p, c, rfl, _⟩ := h.form
  have HS := Lib.hid (h.below hb0)
  obtain ⟨n, hnn⟩ : ∃ n, n = f.ws.length := ⟨_, rfl⟩
  rw [← hnn] at c1 hn HS ⊢
  obtain ⟨S, hS⟩ : ∃ S, S = f.safe := ⟨_, rfl⟩
  rw [← hS] at c0 ⊢
  obtain ⟨bb, hbb⟩ : ∃ n, n = w.heap.size := ⟨_, rfl⟩
  rw [← hbb] at c0 c1
  have HSS := Lib.hid hS
  have HN := Lib.hid hnn
  have HB := Lib.hid hbb
  have HW := Lib.hid hW
  have HB0 := Lib.hid hb0
  have HRD := Lib.hid hl
  have HSZ := Lib.hid hsz
  clear h hW hb0 hnn hS hbb hl hsz
  go_enter Tryz.func80, Tryz.ntmps80
  go_wp2_with (with_reducible refine wpList_string_bytes (o := ⟨some 7, _, _, _, _, _⟩) rfl 9 126 _ rfl Tryz.underlying9 Tryz.underlying126 Tryz.underlying5 S rfl ?_)
  intro vb w2 ho2 hb2
  have hW2 : w.alloc (.cells #[.string S, .slice p n c] 129) = W := by rw [HW.out, HSS.out, HN.out]
  have hW3 : W.heap.size = w.heap.size + 1 := by rw [← hW2]; simp
  rw [← hW3] at ho2
  replace hb2 : Below W.heap.size W w2 := by rw [hW2, ← hW3] at hb2; exact hb2
  have HO2 := Lib.hid ho2
  have HB2 := Lib.hid hb2
  rw [← HB.out]
  clear ho2 hb2 hW2 hW3
  go_wp2_with fail
  go_loopw [3, 4] (fun vo vi wr => ∃ i : Nat, i ≤ n ∧ vi = .int .i64 (i : Nat) ∧ Loose wr W.heap.size vo (bs S ++ cat (f.ws.take i)) ∧ Below W.heap.size W wr) (fun _ vi _ => (n - intOf vi).toNat)
  case atStart => exact ⟨0, by omega, rfl, by rw [List.take_zero, cat_nil, List.append_nil]; exact HO2.out, HB2.out⟩
  case round =>
    obtain ⟨i, hi, rfl, ho, hbr⟩ := hrel
    have HO := Lib.hid ho
    have HBR := Lib.hid hbr
    have d1 := (hbr.cell (block_lt_of_cell c1)).trans c1
    clear ho hbr HO2 HB2
    by_cases hlt : i < n
    · obtain ⟨g, o, rfl, x1⟩ := strs_at' (HS.out.below HBR.out).strs i (by rw [← HN.out]; exact hlt)
      obtain ⟨x, hx⟩ : ∃ x, x = f.ws.getD i ⟨#[]⟩ := ⟨_, rfl⟩
      rw [← hx] at x1
      have htk := cat_take_succ f.ws i (by rw [← HN.out]; exact hlt)
      rw [show (ByteArray.empty : ByteArray) = ⟨#[]⟩ from rfl, ← hx] at htk
      have hle := length_cat_take f.ws (i + 1)
      have hlen : (bs S ++ cat (f.ws.take i)).length + x.size ≤ 140737488355328 := by
        have h1 := HSZ.out
        have h2 := HRD.out
        have h3 : S.size = f.safe.size := by rw [HSS.out]
        rw [htk, List.length_append, length_bs] at hle
        rw [List.length_append, length_bs]
        omega
      have HTK := Lib.hid htk
      have HLEN := Lib.hid hlen
      clear hx htk hle hlen
      go_wp2_with (at_builtin; refine wpList_append_loose_str rfl _ _ 126 9 rfl Tryz.underlying126 Tryz.underlying9 infoByte rfl HO.out x rfl HLEN.out HBR.out.size ?_)
      intro v5 w5 ho5 hg5
      rw [← HTK.out] at ho5
      have hb5 : Below W.heap.size W w5 := HBR.out.grown hg5 HBR.out.size (fun k hk => (HO.out.block hk).1)
      have R := Lib.hid (And.intro ho5 hb5)
      clear ho5 hg5 hb5
      go_wp2_with fail
      exact ⟨⟨i + 1, by omega, rfl, R.out⟩, by simp [intOf]; omega⟩
    · have hie : i = n := by omega
      have hO2 := HO.out
      rw [hie, HN.out, List.take_length] at hO2
      obtain ⟨gB, capB, rfl, hlo⟩ := hO2
      obtain ⟨L, hL⟩ : ∃ L, L = bs S ++ cat f.ws := ⟨_, rfl⟩
      rw [← hL] at hlo ⊢
      have HLO := Lib.hid hlo
      have HL := Lib.hid hL
      clear hlo hL HO
      go_wp2_with (with_reducible refine wpList_bytes_string (o := ⟨some 23, _, _, _, _, _⟩) rfl 126 9 _ rfl Tryz.underlying126 Tryz.underlying5 Tryz.underlying9 gB 0 L.length capB rfl L rfl (fun j hj => by rw [Nat.zero_add]; exact HLO.out.cells j hj) ?_)
      go_wp2_with fail
      go_ret
      refine ⟨?_, HB0.out.trans (HBR.out.mono HB0.out.size)⟩
      have e : strOf L = rd f := by rw [HL.out, HSS.out]; rfl
      rw [← e]
      rfl
end Go.Proofs.YtilpbjcbffbjeaaGreatDoor
