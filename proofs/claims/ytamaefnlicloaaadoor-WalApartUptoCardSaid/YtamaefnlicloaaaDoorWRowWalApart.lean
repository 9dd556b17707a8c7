/-
  Whatever the arguments: the law WalApart answers true. Conditions: the bound on the arguments' bulk; the package-level variables hold what the program's text lays.
-/
import Derived.Test.YtamaefnlicloaaaDoorWGlob
import Derived.Test.YtamaefnlicloaaaDoorWLApart
import Derived.Test.YtamaefnlicloaaaDoorWOpsOpen
namespace Go.Proofs.YtamaefnlicloaaaDoor.walApart
open Go.ChangeShapes Go.WideShapes Go.ChangeAt Go.RowKit
open Go.ChangeMaps (open_string shut_string)
set_option linter.unusedVariables false
set_option maxRecDepth 100000
theorem reads (os : Os) {H : Type} (enc : TypeId × Value → H) : ∃ places, DataW.whole enc Tryd.prog ((laidWorld os).forCall (fun _ _ => 0) ⟨#[], #[.slice none 0 0, .slice none 0 0, .slice none 0 0], []⟩).memory Tryd.f5.params.toList Rows.walApartSpec.vars false #[(.slice none 0 0 : Value), (.slice none 0 0 : Value), (.slice none 0 0 : Value)].toList 8 = some ([.nil, .nil, .nil], [], places) :=
  ⟨[], by kernel_rfl⟩
theorem lifted (os : Os) (started : os.Started) (H : Type) (enc : TypeId × Value → H) (F : Stop.Interp) :
    ReturnsInHanded {} Tryd.checked os 5 .any ((Rows.OpenSpec.upto Rows.walApartSpec).preRow enc Tryd.prog Tryd.f5 Rows.walApartUptoRow.domain false Rows.walApartUptoRow.laid) (((Rows.OpenSpec.upto Rows.walApartSpec).at F).post enc Tryd.prog Tryd.f5 false true false false) := by
  obtain ⟨places, hx⟩ := reads os enc
  refine returnsInHanded_of_row (C := Tryd.checked) (s := Rows.OpenSpec.upto Rows.walApartSpec) own started (by kernel_rfl) Tryd.func5
    (witness_row_at (enc := enc) (C := Tryd.checked) false (laidWorld os) #[.slice none 0 0, .slice none 0 0, .slice none 0 0] rfl (by kernel_rfl) (by kernel_rfl) (by kernel_rfl)
      (OpenSpec.preRow_of_cond 8 hx (by kernel_rfl) (fun k hk => by cases hk; kernel_rfl) (by kernel_rfl) (laidWorld_met os _))) ?_
  intro W base args ds gs before hval0 hW _ hcond _ hL _ _
  have hval : ∀ (j : Nat) t v, Tryd.f5.params[j]? = some t → args[j]? = some v → Value.okWide Tryd.prog W .any base t v := hval0
  have hW' := hW
  obtain ⟨p, q, hA0, hV, rfl, hfz, hnd⟩ := hW
  have hA : DataW.TrodAll enc Tryd.prog W 0 (fun _ => true) true Tryd.f5.params.toList args.toList ds p := hA0
  have hk : Rows.uptoBulkAll (ds ++ gs) ≤ 1048576 := of_decide_eq_true (hcond _ rfl)
  clear hcond
  rw [Tryd.params5] at hA hval
  obtain ⟨v0, vs0, d0, ds0, p0, q0, hargs, rfl, rfl, h0, r0⟩ := trodAll_cons hA
  obtain ⟨v1, vs1, d1, ds1, p1, q1, rfl, rfl, rfl, h1, r1⟩ := trodAll_cons r0
  obtain ⟨v2, vs2, d2, ds2, p2, q2, rfl, rfl, rfl, h2, r2⟩ := trodAll_cons r1
  obtain ⟨rfl, rfl, rfl⟩ := trodAll_nil r2
  obtain rfl : args = #[v0, v1, v2] := by cases args; simp_all
  obtain ⟨rfl, rfl⟩ := trodVars_none hV
  obtain ⟨s0, l0, c0, hv0⟩ := okWide_slice Tryd.underlying47 (hval 0 47 v0 rfl rfl)
  have h0k := h0
  obtain ⟨fuel0, f0⟩ := h0
  have f0' : DataW.trod enc Tryd.prog W 0 (fun _ => true) true fuel0 47 [v0] = some (d0, p0) := by subst hv0; simpa [Value.cells] using f0
  obtain ⟨a0, ha0, hb0, hs0⟩ := open_wops f0'
  obtain ⟨s1, l1, c1, hv1⟩ := okWide_slice Tryd.underlying47 (hval 1 47 v1 rfl rfl)
  have h1k := h1
  obtain ⟨fuel1, f1⟩ := h1
  have f1' : DataW.trod enc Tryd.prog W 0 (fun _ => true) true fuel1 47 [v1] = some (d1, p1) := by subst hv1; simpa [Value.cells] using f1
  obtain ⟨a1, ha1, hb1, hs1⟩ := open_wops f1'
  obtain ⟨s2, l2, c2, hv2⟩ := okWide_slice Tryd.underlying48 (hval 2 48 v2 rfl rfl)
  have h2k := h2
  obtain ⟨fuel2, f2⟩ := h2
  have f2' : DataW.trod enc Tryd.prog W 0 (fun _ => true) true fuel2 48 [v2] = some (d2, p2) := by subst hv2; simpa [Value.cells] using f2
  obtain ⟨a2, ha2, hb2, hs2⟩ := open_rss f2'
  clear hA0 hval0
  simp only [List.append_nil] at hW' hk
  simp only [Rows.uptoBulkAll] at hk
  dsimp only at hb0 hs0
  have y0 : a0.length ≤ 1048576 := by omega
  dsimp only at hb1 hs1
  have y1 : a1.length ≤ 1048576 := by omega
  dsimp only at hb2 hs2
  have y2 : a2.length ≤ 1048576 := by omega
  have hlt : ∀ x ∈ p0 ++ (p1 ++ (p2 ++ [])), x.block < W.heap.size := fun x hx => by simpa using hW'.lt x (by simpa using hx)
  refine (apartLLaw v0 v1 v2 a0 a1 a2 W ha0 ha1 ha2 (by omega) (by omega) (fun i => by have := hs2 i; omega)).mono fun e W' ⟨he, hb⟩ => ?_
  subst he
  exact ⟨_, rfl, ⟨_, _, _, [], p0 ++ (p1 ++ (p2 ++ [])), [], hW', trodAll_mk1 (shut_bool Tryd.underlying4 true), trodAll_cons_mk (Below.trod laidOut (by kernel_rfl) (of_decide_eq_true (by kernel_rfl)) h0k hb (fun x hx => hlt x (by simp [hx]))) (trodAll_cons_mk (Below.trod laidOut (by kernel_rfl) (of_decide_eq_true (by kernel_rfl)) h1k hb (fun x hx => hlt x (by simp [hx]))) (trodAll_cons_mk (Below.trod laidOut (by kernel_rfl) (of_decide_eq_true (by kernel_rfl)) h2k hb (fun x hx => hlt x (by simp [hx]))) trodAll_mk0)), rfl, hb.frame _, fun h => by cases h⟩⟩
theorem over : Rows.WalApartUptoSaid :=
  OpenClaim.holds_of_cond 5 Tryd.f5 rfl rfl rfl rfl rfl rfl rfl ⟨rfl, rfl, rfl, rfl, rfl⟩ rfl rfl rfl rfl rfl (by kernel_rfl) Tryd.func5 (by kernel_rfl)
    (of_decide_eq_true (by kernel_rfl)) (by unfold Func.isWrapper; first | (rw [if_pos (by decide +kernel)]; kernel_rfl) | (rw [if_neg (by decide +kernel)]; exact ⟨rfl, rfl⟩))
    (fun os started H enc _ F => by rw [OpenClaim.pre_eq_preRow]; exact lifted os started H enc F)
theorem plain (f : FuncId) (fn : Func) (hf : Tryd.pinned.checked.prog.funcNamed "ostiary/ostiarylaw17.WalApart" = some f) (hfn : Tryd.pinned.checked.prog.funcs[f]? = some fn) :
    true = Tryd.pinned.checked.prog.looks [] ∧ ∀ (j : Nat) t, fn.params[j]? = some t → Tryd.pinned.checked.prog.wantsStandIn t = false := by
  obtain rfl : f = 5 := Option.some.inj ((show Tryd.prog.funcNamed "ostiary/ostiarylaw17.WalApart" = some 5 by kernel_rfl).symm.trans hf) |>.symm
  obtain rfl : fn = Tryd.f5 := (Option.some.inj (Tryd.func5.symm.trans hfn)).symm
  refine ⟨by kernel_rfl, fun j t ht => ?_⟩
  rw [Tryd.params5] at ht
  have hm : t ∈ ([47, 47, 48] : List Nat) := by simpa using Array.mem_of_getElem? ht
  simp at hm
  rcases hm with rfl | rfl
  · exact (show Tryd.prog.wantsStandIn 47 = false by kernel_rfl)
  · exact (show Tryd.prog.wantsStandIn 48 = false by kernel_rfl)
/-- ████ THE STATEMENT ████ -/
theorem proved : Rows.WalApartUptoCardSaid :=
  Claim7.holds_tied_plain_at .later [] _ _ _ _ over (fun _ h => by cases h) (by kernel_rfl) (fun _ h => by cases h) walApartUpto_row_tie rfl ⟨rfl, rfl⟩ (by kernel_rfl) rfl plain (by kernel_rfl)
end Go.Proofs.YtamaefnlicloaaaDoor.walApart
